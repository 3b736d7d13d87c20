/- Layer 18: the law SaturateMatchesSpec, as a contract. -/
import Derived.Test.YtjfjdomfldolcaaGreatVlZ1
set_option linter.all false
namespace Go.Proofs.YtjfjdomfldolcaaGreat
open Go Go.Vl
variable {G:Gl}
set_option maxRecDepth 10000
theorem Vz {p:Pol} {f:Fa} {w:Wy} (h:w∈lg p f):w∈fg p:=by
 unfold lg at h
 split at h
 ·rename_i hf
  exact(lC hf).2 w ((jT _ _).mem_iff.1 h)
 ·cases h
theorem VA {p:Pol} {f:Fa}:∀ w∈lg p f,w.pre.length≤2:=fun w hw=>qd w (Vz hw)
theorem VB {p:Pol} {f:Fa}:(lg p f).length≤(fg p).length:=by
 unfold lg
 split
 ·rename_i hf
  rw[(jT _ _).length_eq];exact Ep hf
 ·simp
def yt:=jj @pkA (jj @ptA (jj @pkI @gj))
def zX:=jj @pkA @gj
set_option maxHeartbeats 4000000 in
theorem Df (p:Pol) (f:Fa):FnOK Tryz.prog G 3 [.agg (poC p),.agg (faC f)] (bo true):=by
 refine cL (rs:=[.tmp 4]) false [] mixed Tryz.func3 rfl rfl rfl rfl (by kernel_rfl) (by simp) rfl rfl ?_
 have r3:∀ nb q (K:V→Prop),ldA nb q ((faC f).map .c) 0 3 K=(q<nb∧K (.agg (faC f))):=fun nb q K=>by
  unfold ldA
  exact propext ⟨fun h=>⟨h.1,h.2.2⟩,fun h=>⟨h.1,⟨rfl,rfl⟩,h.2⟩⟩
 have r2:cy ((faC f).map V.c)=false:=rfl
 simp only[yt,seval,eU]
 refine aB rfl (qg p) (fun _=>rfl) ?_
 cases hs:(decide ((p.types.length:Int)≤4)&&decide ((p.rules.length:Int)≤8))
 ·simp only[zX,seval]
  refine aB rfl jH (fun _=>rfl) ?_
  simp only[zX,seval]
 ·have hs:(p.types.length:Int)≤4∧(p.rules.length:Int)≤8:=by simpa using hs
  have hp:PolS p:=⟨by omega,by omega⟩
  have JS:=hp.sat
  have Mo:=jU p
  have WC:=@Cf p
  simp only[yt,seval,r2,r3,eU]
  refine aB rfl (Gp hp f) (fun h=>by cases h) ?_
  simp only[yt,seval,r2,r3,eU]
  refine aB rfl (Vv hp f) (fun h=>by cases h) ?_
  simp only[zX,seval]
  refine aB rfl jH (fun _=>rfl) ?_
  simp only[yt,seval,eU]
  refine aB rfl (sd hp) (fun h=>by cases h) ?_
  simp only[yt,seval,eU]
  have hRL:=vu (G:=G) hp
  rw[nK] at hRL
  refine aB rfl hRL (fun h=>by cases h) ?_
  simp only[zX,seval]
  refine aB rfl (Ji (cC p) (cC p) (by omega) (fun w hw=>by have:=qd w (least_mem.1 hw);omega)) (fun _=>rfl) ?_
  simp only[yt,seval,eU]
  refine aB rfl (yj hp) (fun h=>by cases h) ?_
  simp only[yt,seval,eU]
  refine aB rfl (P5 hp) (fun h=>by cases h) ?_
  simp only[zX,seval]
  refine aB rfl (qV (dP p) (dP p) (by unfold dP aL;rw[au];omega)) (fun _=>rfl) ?_
  simp only[zX,seval,eU]
  refine aB rfl (Ji (lg p f) (lg p f) (by have:=@VB p f;omega) (fun w hw=>by have:=VA w hw;omega)) (fun _=>rfl) ?_
  simp only[yt,seval,eU,beq_self_eq_true]
  refine aB rfl (wT hp) (fun h=>by cases h) ?_
  simp only[yt,seval,eU]
  refine aB rfl (Jh hp) (fun h=>by cases h) ?_
  simp only[zX,seval]
  have hty:=hp.ty
  refine aB rfl (qV (sZ p) (sZ p) (by have:(sZ p).length≤(j4 p).length:=ck _ _;omega)) (fun _=>rfl) ?_
  simp only[zX,seval,eU]
