/- Layer 18: for all arguments of bulk at most 1048576 the law SaturateMonotone returns true: its statement (the second form). Conditions: those that the given row prints (the bound). -/
import Derived.Test.YtjfjdomfldolcaaGreatVlZ7
import Derived.Test.YtjfjdomfldolcaaGreatVlZ8
set_option linter.all false
namespace Go.Proofs.YtjfjdomfldolcaaGreat
open Go Go.Vl Go.RowKit Go.ChangeShapes
set_option maxRecDepth 100000 in
theorem tg (os:Os) {H:Type} (enc:TypeId×Value→H):∃ places,DataW.whole enc Tryz.prog ((World.doorLaid Tryz.prog 400 os).forCall (fun _ _=>0) ⟨#[],#[Ln,.slice none 0 0,.slice none 0 0,.slice none 0 0],[]⟩).memory Tryz.f6.params.toList Rows.saturateMonotoneSpec.vars false (#[Ln,.slice none 0 0,.slice none 0 0,.slice none 0 0]:Array Value).toList 8=some ([.agg [.lit (.string []),.nil,.nil,.nil],.nil,.nil,.nil],[],places):=
 ⟨[],by kernel_rfl⟩
set_option maxRecDepth 100000 in
theorem sq (os:Os) (started:os.Started) (H:Type) (enc:TypeId×Value→H) (F:Stop.Interp) :
 ReturnsInHanded {} Tryz.checked os 6 .any ((Rows.OpenSpec.upto Rows.saturateMonotoneSpec).preRow enc Tryz.prog Tryz.f6 Rows.saturateMonotoneUptoRow.domain false Rows.saturateMonotoneUptoRow.laid) (((Rows.OpenSpec.upto Rows.saturateMonotoneSpec).at F).post enc Tryz.prog Tryz.f6 false true false false):=by
 obtain⟨places,hx⟩:=tg os enc
 refine returnsInHanded_of_row (C:=Tryz.checked) (s:=Rows.OpenSpec.upto Rows.saturateMonotoneSpec) Il started (by kernel_rfl) Tryz.func6
  (witness_row_at (enc:=enc) (C:=Tryz.checked) false (World.doorLaid Tryz.prog 400 os) #[Ln,.slice none 0 0,.slice none 0 0,.slice none 0 0] rfl (by kernel_rfl) (by kernel_rfl) (by kernel_rfl)
   (OpenSpec.preRow_of_cond 8 hx (by kernel_rfl) (fun k hk=>by cases hk;kernel_rfl) (by kernel_rfl) (laidMet_of_run' 8 (by kernel_rfl) (by kernel_rfl)))) ?_
 intro W base args ds gs before ze hW _ hk _ hL _ _
 refine Py (f:=6) (fn:=Tryz.f6) (s:=Rows.saturateMonotoneSpec) (gl:=gl) (L:=argTypes) (ts:=[26,49,22,23]) (tb:=4) pS rfl (by simp[argTypes]) rT (fun t ht=>?_) rfl (fun ds h=>?_) rfl Tryz.underlying4 ze hW Im (fun xs hg oE=>?_)
 ·have:t=26∨t=49∨t=22∨t=23:=by simpa using ht
  rcases this with rfl | rfl | rfl | rfl<;>exact⟨by kernel_rfl,bX (by kernel_rfl)⟩
 ·match ds,h with
  |[d0,d1,d2,d3],_=>rfl
 ·subst hg
  have hk:=hk _ rfl
  obtain⟨e0,r0,u0,y0,rfl,rfl,h0,oE⟩:=ta oE
  obtain⟨e1,r1,u1,y1,rfl,rfl,h1,oE⟩:=ta oE
  obtain⟨e2,r2,u2,y2,rfl,rfl,h2,oE⟩:=ta oE
  obtain⟨e3,r3,u3,y3,rfl,rfl,h3,oE⟩:=ta oE
  obtain⟨rfl,rfl⟩:=P9 oE
  obtain⟨x0,rfl,p0,q0⟩:=aaA (A0 hk (by simp)) h0
  obtain⟨x1,rfl,p1⟩:=aaG (A0 hk (by simp)) h1
  obtain⟨x2,rfl,p2⟩:=aaC (A0 hk (by simp)) h2
  obtain⟨x3,rfl,p3⟩:=aaE (A0 hk (by simp)) h3
  exact Cw x0 x1 x2 x3 (by omega) (by omega) (by omega)
theorem saturateMonotone_upto:Rows.SaturateMonotoneUptoSaid:=
 OpenClaim.holds_of_cond 6 Tryz.f6 rfl rfl rfl rfl rfl rfl rfl ⟨rfl,rfl,rfl,rfl,rfl⟩ rfl rfl rfl rfl rfl (by kernel_rfl) Tryz.func6 (by kernel_rfl)
  (bX (by kernel_rfl)) (by unfold Func.isWrapper;first | (rw[if_pos (by decide +kernel)];kernel_rfl) | (rw[if_neg (by decide +kernel)];exact⟨rfl,rfl⟩))
  (fun os started H enc _ F=>by rw[OpenClaim.pre_eq_preRow];exact sq os started H enc F)
#print axioms saturateMonotone_upto
