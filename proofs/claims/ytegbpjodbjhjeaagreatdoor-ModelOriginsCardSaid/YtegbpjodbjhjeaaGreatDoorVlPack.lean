/- Values without memory: the laws by which conditions are computed, in packs. -/
import Derived.Test.YtegbpjodbjhjeaaGreatDoorVlRunB
set_option linter.all false
namespace Go.Vl
open Go Go.RowKit
theorem ZI {t:Tmp} {r:List Operand}:Ni (.tmp t::r)=some t:=rfl
theorem ZJ {l:List (Nat×V)} {bl:List (List V)}:hdS l bl=⟨frs l,bxs bl,bl.length⟩:=rfl
def rK (n:Nat) (v:V):List V:=List.replicate n v
theorem nN {P:Program} {G:Gl} {tr:List Nat} {T ty:TypeId} {i:TI} {z:List C} {d:Nat} {pos:String} {af:Array Edge} {g:Option (Nat×Bool)} {fr:Nat→V} {bx:Nat→List V} {nb:Nat} {K:S→Prop} (hT:ti P T=some i) (hz:i.zero=some z) :
 VStep P G tr ⟨some d,.alloc T,ty,pos,af,g⟩ ⟨fr,bx,nb⟩ K=K ⟨up fr d (.bp nb 0),up bx nb (z.map ng),nb+1⟩:=by
 obtain⟨kd,a,b,c,zz,f,e⟩:=i;simp only at hz;subst hz
 rw[Qm,hT]
def pk0:=jj @IR (jj @U8 (jj @MW (jj @U9 (jj @PZ (jj @MX (jj @P0 (jj @Ba (jj @zH (jj @Ga (jj @P1 (jj @MY (jj @Gb (jj @P2 (jj @MZ (jj @IS (jj @Va (jj @Ze (jj @Vb (jj @Vd (jj @Zf (jj @Zg (jj @Zh (jj @Gc (jj @Ve (jj @P3 (jj @P4 (jj @Vf (jj @Bb (jj @M3 (jj @yz (jj @P6 (jj @Vg (jj @IT (jj @Gd (jj @Zi @P7)))))))))))))))))))))))))))))))))))
def pk1:=jj @P8 (jj @P9 (jj @IU (jj @acR (jj @Vh (jj @DG (jj @Qd (jj @DI (jj @Qe (jj @Qf (jj @IV (jj @Qg (jj @Bc (jj @Vj (jj @M5 (jj (jj @M6 (jj @Qh (jj @Na @Nb))) (jj @IW (jj @IX (jj @IY (jj @IZ (jj @acT (jj @Vs (jj @QA (jj @QB (jj @Zr (jj @Vt (jj @Zs (jj @Zt (jj @Nc (jj @Nf (jj @Zk (jj @DJ (jj @Zl (jj @Vn (jj @I4 (jj @Ng (jj @Qi (jj @Qj (jj @Gf @Vo))))))))))))))))))))))))))))))))))))))
def pk2:=jj @Zm (jj @Nj (jj @Ql (jj @I5 (jj @Vq (jj @Zn (jj @Qn (jj @zI (jj @mn (jj @Zo (jj @Qo (jj @Vr (jj @I6 (jj @Gi (jj @Bd (jj @Ja (jj @I7 (jj @Gj (jj @Gk (jj @I8 (jj @I9 (jj @QE (jj @Vx (jj @QH (jj @Vy (jj @Qp (jj @Qq (jj @Vz (jj @Qr (jj @Qs @Qt)))))))))))))))))))))))))))))
def pk3:=jj @Qv (jj @Qw (jj @Qx (jj @Qy (jj @Qz (jj @afG (jj @acU (jj @acV (jj @Zu (jj @Zv (jj @Zw (jj @QC (jj @Vv (jj @Vw (jj @QD (jj @ar (jj @DL (jj @DN (jj @QG (jj @Gq (jj @fW (jj @VT (jj @Nx (jj @Nw (jj @Nu (jj @Nv (jj @VS (jj @Ny (jj @VU (jj @QS (jj @Nz (jj @Je (jj @Jf (jj @Jg (jj @QQ @QR))))))))))))))))))))))))))))))))))
def pk4:=jj @VA (jj @acX (jj @acY (jj @VD (jj @VK (jj @afF (jj @Zp (jj @acW (jj @Vu (jj @eV (jj @VC (jj @QL (jj @acZ @VF))))))))))))
def pk5:=jj @QM (jj @ac0 (jj @ZA (jj @VJ (jj @ZB (jj @ZJ (jj @ZI (jj @Qa (jj @Nh (jj @VB (jj @U7 (jj @Qb (jj @Vi (jj @Qc @Nk)))))))))))))
def pk6:=jj @Zj (jj @Nq (jj @Gs (jj @Zz (jj @VG (jj @VH (jj @VI (jj @VO (jj @Jc (jj @Jd (jj @DU (jj @VP (jj @Ns (jj @QO (jj @QP (jj @ac1 (jj @VQ (jj @Ge (jj @M4 (jj @Qk (jj @Gg @M8))))))))))))))))))))
def pk7:=jj @M9 (jj @acS (jj @Vk (jj @ac2 (jj @U4 (jj @U5 (jj @M7 (jj @U6 @Nr)))))))
def pkL:=jj @List.isEmpty_cons.{0} (jj @List.isEmpty_nil.{0} (jj @List.contains_nil.{0} (jj @List.contains_cons.{0} (jj @Bool.or_false (jj @Bool.false_or (jj @Bool.true_or (jj @Bool.or_true (jj @List.replicate_succ.{0} (jj @List.replicate_zero.{0} (jj @List.set_cons_zero.{0} (jj @List.set_cons_succ.{0} (jj @dC.{0} (jj @fS.{0} (jj @aS (jj @iU (jj @j3 (jj @cM.{0} (jj @List.toList_toArray.{0} (jj @cH.{0} (jj @bG.{0} (jj @fE.{0,0} (jj @aL.{0,0} (jj @bE.{0,0} (jj @aB.{0} (jj @aK.{0} (jj @eM.{0} (jj @iI.{0} (jj @fe.{0} (jj @kV.{0} (jj @List.take_nil.{0} (jj @aR.{0} (jj @bb.{0} (jj @Bool.and_self (jj @Nat.lt_add_one (jj @fZ (jj @fY (jj @iV (jj @Bool.true_and (jj @Bool.and_false @Bool.false_and)))))))))))))))))))))))))))))))))))))))
def pkA:=jj pk0 (jj pk1 (jj pk2 (jj pk3 (jj pk4 (jj pk5 (jj pk6 (jj pk7 (pkL))))))))
