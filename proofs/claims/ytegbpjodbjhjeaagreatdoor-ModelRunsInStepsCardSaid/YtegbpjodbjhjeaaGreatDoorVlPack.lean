/- Values without memory: the laws by which conditions are computed, in packs. -/
import Derived.Test.YtegbpjodbjhjeaaGreatDoorVlRunB
set_option linter.all false
namespace Go.Vl
open Go Go.RowKit
theorem Wd {t:Tmp} {r:List Operand}:IZ (.tmp t::r)=some t:=rfl
theorem We {v:Value} {r:List Operand}:IZ (.const v::r)=none:=rfl
theorem Wg {l:List (Nat×V)} {bl:List (List V)}:hdS l bl=⟨frs l,bxs bl,bl.length⟩:=rfl
def ot (n:Nat) (v:V):List V:=List.replicate n v
theorem jy {P:Program} {G:Gl} {tr:List Nat} {T ty:TypeId} {i:TI} {z:List C} {d:Nat} {pos:String} {af:Array Edge} {g:Option (Nat×Bool)} {fr:Nat→V} {bx:Nat→List V} {nb:Nat} {K:S→Prop} (hT:ti P T=some i) (hz:i.zero=some z) :
 VStep P G tr ⟨some d,.alloc T,ty,pos,af,g⟩ ⟨fr,bx,nb⟩ K=K ⟨up fr d (.bp nb 0),up bx nb (z.map kS),nb+1⟩:=by
 obtain⟨kd,a,b,c,zz,f,e⟩:=i;simp only at hz;subst hz
 rw[Mb,hT]
def pk0:=jj @EU (jj @Qs (jj @Iv (jj @Qt (jj @Lv (jj @Iy (jj @Iw (jj @Ix (jj @Lx (jj @xM (jj @wh (jj @Ct (jj @Ly (jj @Iz (jj @Cu (jj @Lz (jj @IA (jj @EV (jj @Qv (jj @Vv (jj @Qw (jj @Qx (jj @Vw (jj @Vx (jj @Vy (jj @Cv (jj @Qy (jj @LA (jj @LC (jj @Qz (jj @xN (jj @IB (jj @u6 (jj @LF (jj @QA (jj @IC (jj @EW (jj @Cw (jj @Vz @LG))))))))))))))))))))))))))))))))))))))
def pk1:=jj @LH (jj @LI (jj @EX (jj @YS (jj @QC (jj @Ao (jj @LN (jj @Ap (jj @LO (jj @LP (jj @EZ (jj @LQ (jj @xO (jj @QE (jj @II (jj (jj @IJ (jj @LS (jj @IS @IT))) (jj @E0 (jj @E1 (jj @E2 (jj @E3 (jj @YW (jj @QM (jj @Mp (jj @Mq (jj @VM (jj @QN (jj @VN (jj @VO (jj @IU (jj @IV (jj @VC (jj @Ar (jj @VD (jj @QH (jj @E4 (jj @IW (jj @LX (jj @LY (jj @Cy @QI))))))))))))))))))))))))))))))))))))))
def pk2:=jj @VF (jj @VG (jj @VH (jj @I4 (jj @Ma (jj @I6 (jj @E6 (jj @QK (jj @VI (jj @As (jj @Mc (jj @wi (jj @fR (jj @CC (jj @VJ (jj @Md (jj @QL (jj @E7 (jj @CE (jj @xP (jj @Fe (jj @E8 (jj @CG (jj @Au (jj @CH (jj @CJ (jj @E9 (jj @CL (jj @Fb (jj @Fc (jj @Mw (jj @QS (jj @MA (jj @QT (jj @Me (jj @Mf (jj @QU (jj @Mg (jj @Mh @Mj))))))))))))))))))))))))))))))))))))))
def pk3:=jj @Mk (jj @Ml (jj @Mm (jj @Mn (jj @Mo (jj @aay (jj @VQ (jj @YX (jj @YY (jj @VR (jj @VT (jj @VU (jj @Ms (jj @QP (jj @QQ (jj @Mt (jj @Mv (jj @QR (jj @ar (jj @Aw (jj @Ax (jj @Mz (jj @CP (jj @fy (jj @RA (jj @Jm (jj @Jl (jj @Jj (jj @Jk (jj @Rz (jj @MS (jj @Jn (jj @RB (jj @MU (jj @Jo (jj @Fi (jj @Fj (jj @Fl (jj @MQ @MR))))))))))))))))))))))))))))))))))))))
def pk4:=jj @Rx (jj @QV (jj @QW (jj @Y1 (jj @Y2 (jj @GQ (jj @MF (jj @MD (jj @ME (jj @QX (jj @QY (jj @sr (jj @I8 (jj @I9 (jj @VW (jj @Q2 (jj @Q3 (jj @Q4 (jj @VZ (jj @V0 (jj @Q6 (jj @V3 (jj @Rh (jj @V4 (jj @Ri (jj @aax (jj @VK (jj @YZ (jj @VS (jj @QO (jj @Mr (jj @eE (jj @GP (jj @MG (jj @MH (jj @MI (jj @Je (jj @Y3 (jj @Q5 @VY))))))))))))))))))))))))))))))))))))))
def pk5:=jj @Q7 (jj @MM (jj @Y4 (jj @V2 (jj @Rf (jj @V5 (jj @V6 (jj @Wg (jj @Wd (jj @We (jj @YT (jj @QB (jj @LJ (jj @LK (jj @L2 (jj @IX (jj @IY (jj @Y7 (jj @Y8 (jj @Fo (jj @Jp (jj @RE (jj @MV (jj @Jq (jj @MW (jj @CW (jj @Jr (jj @Js (jj @QZ (jj @VV (jj @Q1 (jj @Mi (jj @Qr (jj @IF (jj @EY (jj @LL (jj @QD (jj @LM (jj @I5 @L8))))))))))))))))))))))))))))))))))))))
def pk6:=jj @VA (jj @Jf (jj @MJ (jj @CQ (jj @V1 (jj @Q8 (jj @Q9 (jj @Ra (jj @ML (jj @Rb (jj @Re (jj @Rn (jj @Fg (jj @Fh (jj @AA (jj @CU (jj @xQ (jj @Ro (jj @Jh (jj @MO (jj @MP (jj @Y5 (jj @Rp (jj @Rr (jj @Rs (jj @Rv (jj @aaz (jj @V7 (jj @VB (jj @Cx (jj @IG (jj @IH (jj @QJ (jj @L9 (jj @E5 (jj @Cz (jj @CB (jj @LV (jj @IM @IP))))))))))))))))))))))))))))))))))))))
def pk7:=jj @LW (jj @IQ (jj @IR (jj @YU (jj @YV (jj @QF (jj @VP (jj @Rc (jj @Y6 (jj @Rq (jj @Rt (jj @Rw (jj @Qo (jj @Qp (jj @Lt (jj @LU (jj @IK (jj @IL (jj @ID (jj @IE (jj @Qq (jj @Lu @Jg)))))))))))))))))))))
def pkL:=jj @List.isEmpty_cons.{0} (jj @List.isEmpty_nil.{0} (jj @List.contains_nil.{0} (jj @List.contains_cons.{0} (jj @Bool.or_false (jj @Bool.false_or (jj @Bool.true_or (jj @Bool.or_true (jj @List.replicate_succ.{0} (jj @List.replicate_zero.{0} (jj @List.set_cons_zero.{0} (jj @List.set_cons_succ.{0} (jj @dt.{0} (jj @gC.{0} (jj @aS (jj @Bool.not_true (jj @Bool.not_false (jj @cv.{0} (jj @List.toList_toArray.{0} (jj @cn.{0} (jj @bD.{0} (jj @fb.{0,0} (jj @aI.{0,0} (jj @bA.{0,0} (jj @aC.{0} (jj @aJ.{0} (jj @ei.{0} (jj @gR.{0} (jj @eu.{0} (jj @jV.{0} (jj @List.take_nil.{0} (jj @bh.{0} (jj @bq.{0} (jj @Bool.and_self (jj @Nat.lt_add_one (jj @fm (jj @fq (jj @iU (jj @Bool.true_and (jj @Bool.and_false @Bool.false_and)))))))))))))))))))))))))))))))))))))))
def pkA:=jj pk0 (jj pk1 (jj pk2 (jj pk3 (jj pk4 (jj pk5 (jj pk6 (jj pk7 (pkL))))))))
