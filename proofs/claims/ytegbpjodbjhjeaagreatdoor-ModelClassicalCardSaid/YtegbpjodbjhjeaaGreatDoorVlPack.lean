/- Values without memory: the laws by which conditions are computed, in packs. -/
import Derived.Test.YtegbpjodbjhjeaaGreatDoorVlRunB
set_option linter.all false
namespace Go.Vl
open Go Go.RowKit
theorem aaX {t:Tmp} {r:List Operand}:Om (.tmp t::r)=some t:=rfl
theorem aaY {l:List (Nat×V)} {bl:List (List V)}:hdS l bl=⟨frs l,bxs bl,bl.length⟩:=rfl
def su (n:Nat) (v:V):List V:=List.replicate n v
theorem oo {P:Program} {G:Gl} {tr:List Nat} {T ty:TypeId} {i:TI} {z:List C} {d:Nat} {pos:String} {af:Array Edge} {g:Option (Nat×Bool)} {fr:Nat→V} {bx:Nat→List V} {nb:Nat} {K:S→Prop} (hT:ti P T=some i) (hz:i.zero=some z) :
 VStep P G tr ⟨some d,.alloc T,ty,pos,af,g⟩ ⟨fr,bx,nb⟩ K=K ⟨up fr d (.bp nb 0),up bx nb (z.map nH),nb+1⟩:=by
 obtain⟨kd,a,b,c,zz,f,e⟩:=i;simp only at hz;subst hz
 rw[Rt,hT]
def pk0:=jj @JY (jj @Wp (jj @N4 (jj @Wq (jj @Q4 (jj @N5 (jj @Q5 (jj @Cd (jj @AL (jj @Hh (jj @Q6 (jj @N6 (jj @Hi (jj @Q7 (jj @N7 (jj @JZ (jj @Ws (jj @aat (jj @Wt (jj @Wu (jj @aau (jj @aav (jj @aaw (jj @Hj (jj @Wv (jj @Q8 (jj @Q9 (jj @Ww (jj @Ce (jj @N8 (jj @zo (jj @Rb (jj @Wx (jj @J0 (jj @Hk (jj @aax @Rc)))))))))))))))))))))))))))))))))))
def pk1:=jj @Re (jj @Rf (jj @J1 (jj @ad3 (jj @Wy (jj @EN (jj @Rk (jj @EO (jj @Rl (jj @Rm (jj @J2 (jj @Rn (jj @Cf (jj @WA (jj @Oa (jj (jj @Ob (jj @Ro (jj @Of @Og))) (jj @J3 (jj @J4 (jj @J5 (jj @J6 (jj @ad5 (jj @WL (jj @RJ (jj @RL (jj @aaG (jj @WM (jj @aaH (jj @aaI (jj @Oh (jj @Oi (jj @aaz (jj @EP (jj @aaA (jj @WE (jj @J7 (jj @Oj (jj @Rp (jj @Rq (jj @Hm @WG))))))))))))))))))))))))))))))))))))))
def pk2:=jj @aaB (jj @On (jj @Rs (jj @J8 (jj @WI (jj @aaC (jj @Rv (jj @AM (jj @mO (jj @aaD (jj @Rw (jj @WJ (jj @J9 (jj @Hp (jj @Cg (jj @Ke (jj @Ka (jj @Hq (jj @Hr (jj @Kc (jj @Kd (jj @RP (jj @WQ (jj @RS (jj @WR (jj @Rx (jj @Ry (jj @WS (jj @Rz (jj @RA @RB)))))))))))))))))))))))))))))
def pk3:=jj @RE (jj @RF (jj @RG (jj @RH (jj @RI (jj @agP (jj @ad6 (jj @ad7 (jj @aaJ (jj @aaK (jj @aaL (jj @RN (jj @WO (jj @WP (jj @RO (jj @au (jj @ER (jj @ES (jj @RR (jj @Hw (jj @gx (jj @Xb (jj @OF (jj @OE (jj @OC (jj @OD (jj @Xa (jj @OG (jj @Xc (jj @Sc (jj @OH (jj @Ki (jj @Kj (jj @Kk (jj @Sa @Sb))))))))))))))))))))))))))))))))))
def pk4:=jj @WT (jj @ad9 (jj @aea (jj @WW (jj @W2 (jj @agO (jj @aaE (jj @ad8 (jj @WN (jj @fh (jj @WV (jj @RY (jj @aeb @WX))))))))))))
def pk5:=jj @RZ (jj @aec (jj @aaP (jj @W1 (jj @aaQ (jj @aaY (jj @aaX (jj @Rh (jj @Ol (jj @WU (jj @Wo (jj @Ri (jj @Wz (jj @Rj @Oo)))))))))))))
def pk6:=jj @aay (jj @Oy (jj @Hy (jj @aaO (jj @WY (jj @WZ (jj @W0 (jj @W6 (jj @Kg (jj @Kh (jj @EV (jj @W7 (jj @OA (jj @R7 (jj @R9 (jj @aed (jj @W8 (jj @Hl (jj @N9 (jj @Rr (jj @Hn @Od))))))))))))))))))))
def pk7:=jj @Oe (jj @ad4 (jj @WB (jj @aee (jj @Wl (jj @Wm (jj @Oc (jj @Wn @Oz)))))))
def pkL:=jj @List.isEmpty_cons.{0} (jj @List.isEmpty_nil.{0} (jj @List.contains_nil.{0} (jj @List.contains_cons.{0} (jj @kG (jj @Bool.false_or (jj @lC (jj @lD (jj @List.replicate_succ.{0} (jj @List.replicate_zero.{0} (jj @List.set_cons_zero.{0} (jj @List.set_cons_succ.{0} (jj @dK.{0} (jj @gr.{0} (jj @aM (jj @fV (jj @fC (jj @cP.{0} (jj @List.toList_toArray.{0} (jj @cK.{0} (jj @bJ.{0} (jj @fP.{0,0} (jj @aO.{0,0} (jj @bI.{0,0} (jj @aC.{0} (jj @aH.{0} (jj @ep.{0} (jj @iZ.{0} (jj @eZ.{0} (jj @lu.{0} (jj @List.take_nil.{0} (jj @aN.{0} (jj @aX.{0} (jj @Bool.and_self (jj @Nat.lt_add_one (jj @fZ (jj @ga (jj @jd (jj @Bool.true_and (jj @Bool.and_false @Bool.false_and)))))))))))))))))))))))))))))))))))))))
def pkA:=jj pk0 (jj pk1 (jj pk2 (jj pk3 (jj pk4 (jj pk5 (jj pk6 (jj pk7 (pkL))))))))
