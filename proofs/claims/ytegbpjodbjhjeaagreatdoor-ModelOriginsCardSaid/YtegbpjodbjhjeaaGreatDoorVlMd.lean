/- Layer 16: the closure that recovers a failure. -/
import Derived.Test.YtegbpjodbjhjeaaGreatDoorVlMc
import Derived.WalkKit
import Derived.Recover
import Derived.Tactics
set_option maxHeartbeats 4000000
set_option linter.all false
namespace Go.Proofs.YtegbpjodbjhjeaaGreatDoor
open Go Go.Vl Go.RowKit
set_option maxRecDepth 100000 in
theorem Tz (p:Value) (w:World):CallsD Tryz.prog 68 #[p] .returning w fun e u' w'=>e=.returned (.tuple #[])∧u'=.returning∧w'=w:=by
 refine callsD_of_wpS Tryz.func68 rfl fun c₀ cs hu=>?_
 apply wpS_seq
 apply wpS_region
 simp[wpOpsS,go_sem,recoverD,hu,Tryz.ntmps68,Exit.thenS]
 have ajW:∀ w:World,(binOp BinOp.neq 20 .nilIface .nilIface).run Tryz.prog w=.ok (.bool false) w:=fun _=>by kernel_rfl
 have hta:∀ w:World,(Instr.typeAssert .nilIface 20 95 true).run Tryz.prog w=.ok (.tuple #[.int .i64 0,.bool false]) w:=fun _=>by kernel_rfl
 refine wpS_of_wp ?_
 go_wp2
 cases c₀
 simp_all[bodyPostS,results,Tryz.results68]
theorem LP {caps:Array Value} (hc:caps.size=1):∃ p,caps=#[p]:=⟨caps[0],by
 apply jn
 ·simpa using hc
 ·intro i h1 h2
  have:i<1:=by simpa using h2
  match i with
  |0=>rfl⟩
theorem jv:QU Tryz.prog 68 1:=by
 refine⟨⟨_,Tryz.func68,rfl,_,rfl⟩,fun caps w hc=>?_⟩
 obtain⟨p,rfl⟩:=LP hc
 exact(Tz p w).mono (fun e u' w' h=>⟨⟨_,h.1⟩,h.2⟩)
set_option maxRecDepth 100000 in
attribute [-go_sem] Instr.storeAt in
theorem abh (e:Int):ac4 Tryz.prog 68 1 (pnV e) [(0,36,.int .i64 e)]:=by
 intro caps w w' hc hw
 obtain⟨p,rfl⟩:=LP hc
 obtain⟨w1,h1,rfl⟩:=hw
 have h1:(Instr.storeAt 36 p (.int .i64 e)).run Tryz.prog w=.ok () w':=h1
 clear hc
 refine callsD_of_wpS Tryz.func68 rfl fun c₀ cs hu=>?_
 apply wpS_seq
 apply wpS_region
 simp[wpOpsS,go_sem,recoverD,hu,Tryz.ntmps68,Exit.thenS,pnV]
 have hta:∀ w:World,(Instr.typeAssert (.iface 95 (.int .i64 e)) 20 95 true).run Tryz.prog w=.ok (.tuple #[.int .i64 e,.bool true]) w:=fun _=>by kernel_rfl
 have e0:(#[p]++((Array.replicate 14 undef).setIfInBounds 3 (Value.iface 95 (Value.int IntKind.i64 e))).setIfInBounds 0 (Value.iface 95 (Value.int IntKind.i64 e)))=#[p,Value.iface 95 (Value.int IntKind.i64 e),undef,undef,Value.iface 95 (Value.int IntKind.i64 e),undef,undef,undef,undef,undef,undef,undef,undef,undef,undef]:=rfl
 rw[e0]
 refine wpS_of_wp ?_
 clear e0 hu
 generalize hI:Value.iface 95 (Value.int IntKind.i64 e)=I at *
 go_wp2
 simp[bodyPostS,results,Tryz.results68]
