/- Layer 27: a value is taken off an encoding, where it is not well-formed: a panic. -/
import Derived.Test.YtidlohfkfdeaiaaDoorVlT2
import Derived.Test.YtidlohfkfdeaiaaDoorVlRunB
import Derived.WalkKit
import Derived.Recover
import Derived.Tactics
import Derived.Test.YtidlohfkfdeaiaaDoorVlBp
set_option linter.unusedSimpArgs false
set_option linter.unusedVariables false
namespace Go.Proofs.YtidlohfkfdeaiaaDoor
open Go Go.Vl Go.RowKit

variable {G : Gl}
theorem ifcE : ifcOk Tryd.prog 29 := fun u w => by
  unfold Instr.makeInterface
  simp [Sem.run_bind]
/-- An error as a value of an interface. -/
def eV (e : Int) : Value := .iface 29 (.int .i64 e)
set_option maxRecDepth 100000 in
set_option maxHeartbeats 1500000 in
theorem takeI_bad (b : B) (n e : Int) (u : Nat) (hb : b.length ≤ 1000000000) (h : getI b = (n, u, e)) (he : e ≠ 0) : FnX Tryd.prog G 61 [.bp 0 0, .c (.fn (.func 62) [] [])] [[bv b]] (eV e) [[bv b]] := by
  have hG := GetInt_ok (G := G) b hb
  rw [h] at hG
  refine FnX_by (k := 1) [3000001, 2900003] mixed Tryd.func61 rfl rfl rfl (by kernel_rfl) (by simp) rfl rfl rfl (by simp) ?_
  have d : (!decide (e = 0)) = true := by simp [he]
  simp -implicitDefEqProofs only [pkX, pkA, ptA, ↓reduceIte, Nat.reduceEqDiff, Nat.reduceAdd, Nat.reduceBEq, Nat.reduceMul, Nat.reduceLT, Nat.zero_add, decide_true]
  refine call_fn rfl hG (fun _ => rfl) ?_
  simp -implicitDefEqProofs only [pkX, canPan, pkA, ↓reduceIte, Nat.reduceEqDiff, Nat.reduceAdd, Nat.reduceBEq, d]
  refine pan_ifc ifcE rfl ?_
  exact end_X (by simp) rfl (by simp) (by simp [BL, bxs])
set_option maxRecDepth 100000 in
set_option maxHeartbeats 1500000 in
theorem takeB_bad (b x : B) (e : Int) (u : Nat) (hb : b.length ≤ 1000000000) (h : getB b = (x, u, e)) (he : e ≠ 0) : FnX Tryd.prog G 65 [.bp 0 0, .c (.fn (.func 54) [] [])] [[bv b]] (eV e) [[bv b]] := by
  have hG := GetBytes_ok (G := G) b hb
  rw [h] at hG
  refine FnX_by (k := 1) [3000001, 2900003] mixed Tryd.func65 rfl rfl rfl (by kernel_rfl) (by simp) rfl rfl rfl (by simp) ?_
  have d : (!decide (e = 0)) = true := by simp [he]
  simp -implicitDefEqProofs only [pkX, pkA, ptA, ↓reduceIte, Nat.reduceEqDiff, Nat.reduceAdd, Nat.reduceBEq, Nat.reduceMul, Nat.reduceLT, Nat.zero_add, decide_true]
  refine call_fn rfl hG (fun _ => rfl) ?_
  simp -implicitDefEqProofs only [pkX, canPan, pkA, ↓reduceIte, Nat.reduceEqDiff, Nat.reduceAdd, Nat.reduceBEq, d]
  refine pan_ifc ifcE rfl ?_
  exact end_X (by simp) rfl (by simp) (by simp [BL, bxs])
set_option maxRecDepth 100000 in
set_option maxHeartbeats 1500000 in
theorem takeL_bad (b : B) (l : List Int) (e : Int) (u : Nat) (hb : b.length ≤ 1000000000) (h : getIs b = (l, u, e)) (he : e ≠ 0) : FnX Tryd.prog G 64 [.bp 0 0, .c (.fn (.func 55) [] [])] [[bv b]] (eV e) [[bv b]] := by
  have hG := GetInts_ok (G := G) b hb
  rw [h] at hG
  refine FnX_by (k := 1) [3000001, 2900003] mixed Tryd.func64 rfl rfl rfl (by kernel_rfl) (by simp) rfl rfl rfl (by simp) ?_
  have d : (!decide (e = 0)) = true := by simp [he]
  simp -implicitDefEqProofs only [pkX, pkA, ptA, ↓reduceIte, Nat.reduceEqDiff, Nat.reduceAdd, Nat.reduceBEq, Nat.reduceMul, Nat.reduceLT, Nat.zero_add, decide_true]
  refine call_fn rfl hG (fun h => by cases h) ?_
  simp -implicitDefEqProofs only [pkX, canPan, pkA, ↓reduceIte, Nat.reduceEqDiff, Nat.reduceAdd, Nat.reduceBEq, d]
  refine pan_ifc ifcE rfl ?_
  exact end_X (by simp) rfl (by simp) (by simp [BL, bxs])

set_option maxRecDepth 100000 in
set_option maxHeartbeats 4000000 in
attribute [-go_sem] Instr.storeAt in
/-- The closure that recovers an error. -/
theorem Decode_rec (e : Int) : RecD Tryd.prog 60 2 (eV e) [(0, 24, .agg #[.int .i64 0, .slice none 0 0]), (1, 29, .int .i64 e)] := by
  intro caps w w' hc hw
  obtain ⟨p, q, rfl⟩ : ∃ p q, caps = #[p, q] := ⟨caps[0], caps[1], by
    apply Array.ext
    · simpa using hc
    · intro i h1 h2
      have : i < 2 := by simpa using h2
      match i with
      | 0 => rfl
      | 1 => rfl⟩
  obtain ⟨w1, h1, w2, h2, rfl⟩ := hw
  have h1 : (Instr.storeAt 24 p (.agg #[.int .i64 0, .slice none 0 0])).run Tryd.prog w = .ok () w1 := h1
  have h2 : (Instr.storeAt 29 q (.int .i64 e)).run Tryd.prog w1 = .ok () w' := h2
  clear hc
  refine callsD_of_wpS Tryd.func60 rfl fun c₀ cs hu => ?_
  apply wpS_seq
  apply wpS_region
  simp [wpOpsS, go_sem, recoverD, hu, Tryd.ntmps60, Exit.thenS, eV]
  have hg : ∀ w : World, (eqGuard BinOp.eql 20 (.tmp 5) (.const .nilIface) (.iface 29 (.int .i64 e)) .nilIface).run Tryd.prog w = .ok () w := fun _ => rfl
  have hnil : ∀ w : World, (binOp BinOp.eql 20 (.iface 29 (.int .i64 e)) .nilIface).run Tryd.prog w = .ok (.bool false) w := fun _ => by kernel_rfl
  have hta : ∀ w : World, (Instr.typeAssert (.iface 29 (.int .i64 e)) 20 29 true).run Tryd.prog w = .ok (.tuple #[.int .i64 e, .bool true]) w := fun _ => by kernel_rfl
  have hb : ∀ w : World, (Instr.build 24 #[]).run Tryd.prog w = .ok (.agg #[.int .i64 0, .slice none 0 0]) w := fun _ => by kernel_rfl
  refine wpS_of_wp ?_
  go_wp2
  simp [bodyPostS, results, Tryd.results60]
end Go.Proofs.YtidlohfkfdeaiaaDoor

/- Layer 27: encodings of tables are decoded: whatever the text. -/
namespace Go.Proofs.YtidlohfkfdeaiaaDoor
open Go Go.Vl Go.RowKit

variable {G : Gl}
/-- The keys of an encoding, one after the other: an error, the keys, the rest, whether something is strange. -/
def decL : Nat → List Ky → B → Bool → Int × List Ky × B × Bool
  | 0, ks, r, st => (0, ks, r, st)
  | n + 1, ks, r, st =>
    if (getIs r).2.2 ≠ 0 then ((getIs r).2.2, [], [], false) else if (getIs r).1.length ≠ 8 then (6, [], [], false) else
    if (getB (r.drop (getIs r).2.1)).2.2 ≠ 0 then ((getB (r.drop (getIs r).2.1)).2.2, [], [], false) else
    decL n (ks ++ [keyD (getIs r).1 (getB (r.drop (getIs r).2.1)).1]) ((r.drop (getIs r).2.1).drop (getB (r.drop (getIs r).2.1)).2.1) (st || !wi ((getIs r).1.getD 7 0) 0 1)
def tb0 : Tb := ⟨0, []⟩
def decE (nx : Int) (x : Int × List Ky × B × Bool) : Tb × Int :=
  if x.1 ≠ 0 then (tb0, x.1) else if 0 < x.2.2.1.length then (tb0, 6) else if x.2.2.2 = true then (tb0, 6) else if validT ⟨nx, x.2.1⟩ = false then (tb0, 6) else (⟨nx, x.2.1⟩, 0)
def decR (nx : Int) (r : B) : Tb × Int :=
  if (getI r).2.2 ≠ 0 then (tb0, (getI r).2.2) else if wi (getI r).1 0 4096 = false then (tb0, 6) else decE nx (decL (getI r).1.toNat [] (r.drop (getI r).2.1) false)
/-- What Decode returns. -/
def decT (b : B) : Tb × Int := if (getI b).2.2 ≠ 0 then (tb0, (getI b).2.2) else decR (getI b).1 (b.drop (getI b).2.1)

abbrev trD : List Nat := [1000011, 1000013, 1000021, 1000042, 400042, 504202, 200035, 303500, 200038, 200041, 200045, 200048, 200051, 200054, 200057, 200060, 200065, 306500, 2400064, 2300013, 2900003, 2900004, 2900006, 2900009, 2900011, 2900013, 2900016, 3000002]
set_option maxRecDepth 100000 in
/-- The end of Decode where it panics with an error. -/
theorem rec_end {e : Int} {fr : Nat → V} {bx : Nat → List V} {nb : Nat} {a : C} {b : V} {c : C} (h2 : fr 2 = .bp 0 0) (h3 : fr 3 = .bp 1 0) (hb0 : bx 0 = [V.c a, b]) (hb1 : bx 1 = [V.c c]) (hnb : 2 ≤ nb) :
    recX Tryd.prog G trD 60 2 [.bp 0 0, .bp 1 0] (.tup [tv tb0, i64 e]) [.cell 2 24, .cell 3 29] 80 (eV e) ⟨fr, bx, nb⟩ := by
  refine ⟨79, [(2, 0, 24, .agg #[.int .i64 0, .slice none 0 0], .agg [ic 0, .sl []]), (3, 1, 29, .int .i64 e, i64 e)], by decide, Decode_rec e, ?_⟩
  refine ⟨⟨by decide, ⟨0, 0, h2, rfl⟩, fun I w => .agg _ _ rfl fun j c hc => ?_⟩, ?_⟩
  · match j with
    | 0 => simp at hc; subst hc; exact .lit _ rfl
    | 1 => simp at hc; subst hc; exact .nil none 0 (fun _ => rfl)
    | j + 2 => simp at hc
  simp -implicitDefEqProofs only [pkA, ptA, ↓reduceIte, Nat.reduceEqDiff, Nat.reduceAdd, Nat.reduceBEq, Nat.reduceMul, Nat.reduceLT, Nat.reduceLeDiff, Nat.zero_add, decide_true, h2, hb0]
  refine ⟨by omega, ⟨by decide, ⟨1, 0, by simp [up_apply, h3], rfl⟩, fun I w => .c _ _ (.lit _ rfl)⟩, ?_⟩
  have hs : setV [V.c a, b] 0 [V.c (ic 0), V.c (.sl [])] = [V.c (ic 0), V.c (.sl [])] := rfl
  simp -implicitDefEqProofs only [pkA, ptA, ↓reduceIte, Nat.reduceEqDiff, Nat.reduceAdd, Nat.reduceBEq, Nat.reduceMul, Nat.reduceLT, Nat.reduceLeDiff, Nat.zero_add, decide_true, h3, hb1, hs]
  refine ⟨by omega, ?_⟩
  refine retV_cc ?_ ?_
  · have e2 : (up (up (up (up fr 79 (V.agg [ic 0, C.sl []])) 79 V.un) 79 (i64 e)) 79 V.un) 2 = .bp 0 0 := by simp [up_apply, h2]
    rw [e2, ldA_of ti_24 rfl rfl]
    exact ⟨rfl, lda_tv (t := tb0) (by omega) rfl⟩
  · have e3 : (up (up (up (up fr 79 (V.agg [ic 0, C.sl []])) 79 V.un) 79 (i64 e)) 79 V.un) 3 = .bp 1 0 := by simp [up_apply, h3]
    rw [e3, ldB_of ti_29 rfl]
    exact ⟨rfl, by omega, rfl⟩
theorem join_vgdK {P : Program} {G : Gl} {tr : List Nat} {ops : Array Oper} {o : Oper} {r : List Oper} {K : S → Prop} {d : Option Tmp} {v : V} {w : Bool} {s : S} (J : S → Prop) (h : ∀ s', J s' → K s') (hb : ∀ K' : S → Prop, (∀ s', J s' → K' s') → vgd P G tr ops o r K' d v w s) : vgd P G tr ops o r K d v w s := hb K h
theorem gh_app {P : Program} {G : Gl} {s : S} {t d y : Nat} {v : Value} {E : Option (TypeId × Nat)} {es : List (List C)} {ts : List TypeId} {K : V → Prop} (h1 : s.fr t = .c (.ex v)) (h2 : s.fr d = .gh v E es) (h0 : t ≠ d ∧ y ≠ t ∧ y ≠ d) (h : vbuiltin P .append ts [.ow E es, vw s (s.fr y)] K) :
    vghost P G s (some d) ts [.tmp t, .tmp y] K := by
  unfold vghost
  simp only [h1, h2]
  exact ⟨⟨h0.1, trivial, fun e => h0.2.1 (by cases e; rfl), fun e => h0.2.2 (by cases e; rfl)⟩, h⟩
theorem vops_ahead {P : Program} {G : Gl} {tr : List Nat} {ops : Array Oper} {s : S} {K : S → Prop} {stop : Nat} (f : List Oper → List Oper) (h : nums ops (Go.Vl.ahead ops stop) = f ops.toList) (hv : vops P G tr ops (f ops.toList) s K) : vops P G tr ops (nums ops (Go.Vl.ahead ops stop)) s K := h ▸ hv
theorem panC_one {P : Program} {G : Gl} {KP : Value → S → Prop} {s : S} {o : Oper} {f : Operand} {args : Array Operand} {ts : Array TypeId} {g : FuncId} {all cargs : List V} {pv : Value} {c0 c1 : List C} (q : Nat)
    (ho : o.op = .call { callee := .value f, args := args, argTypes := ts })
    (hc : calleeV (ev G s f) (args.toList.map (ev G s)) = some (g, all)) (hf : FnX P G g cargs [c0.map .c] pv [c1.map .c]) (hall : all.map V.fz = cargs.map (V.ren (rho [q] s.nb))) (hq : q < s.nb) (hb : s.bx q = c0.map .c)
    (hK : KP pv ⟨s.fr, up s.bx q (c1.map .c), s.nb⟩) : vpanC P G s o KP := by
  have hm : ∀ (ρ : Nat → Nat) (l : List C), (l.map V.c).map (V.ren ρ) = l.map .c := fun ρ l => by
    rw [List.map_map]; rfl
  have h0 : rho [q] s.nb 0 = q := rfl
  unfold vpanC
  simp only [ho, hc]
  refine ⟨[q], cargs, [c0.map .c], pv, [c1.map .c], hf, hall, ⟨rfl, by simp⟩, ⟨⟨by rw [h0]; exact hq, by rw [h0, hm]; exact hb⟩, trivial⟩, ?_⟩
  have e : setBx (rho [q] s.nb) 0 [c1.map .c] s.bx = up s.bx q (c1.map .c) := by
    simp only [setBx, hm, h0]
  rw [e]
  exact hK
set_option maxRecDepth 100000 in
set_option maxHeartbeats 3000000 in
/-- Decode, whatever the text. -/
theorem Decode_ok (text : B) (hl : text.length ≤ 1000000) : FnOK Tryd.prog G 27 [sv text] (.tup [tv (decT text).1, i64 (decT text).2]) := by
  generalize hT : decT text = R
  obtain ⟨t, e⟩ := R
  refine FnOK_byX 2 trD mixed Tryd.func27 rfl rfl (rs := [.cell 2 24, .cell 3 29]) rfl rfl (by simp) (by kernel_rfl) (by kernel_rfl) ⟨rfl, rfl, by decide⟩ ⟨rfl, rfl, rfl⟩ Decode_idle rfl rfl ?_
  simp -implicitDefEqProofs only [pkX, pkA, ptA, ↓reduceIte, Nat.reduceEqDiff, Nat.reduceAdd, Nat.reduceBEq, Nat.zero_add, dfrKX_n, dfrLX_mk]
  refine ⟨_, ⟨rfl, rfl⟩, rfl, ?_⟩
  simp -implicitDefEqProofs only [pkX, canPan, pkA, ptA, ↓reduceIte, Nat.reduceEqDiff, Nat.reduceAdd, Nat.reduceBEq, Nat.reduceMul, Nat.reduceLT, Nat.reduceLeDiff, Nat.zero_add, decide_true, c_sr]
  rcases hg : getI text with ⟨nx, u1, e1⟩
  by_cases h1 : e1 = 0
  case neg =>
    have hR : tb0 = t ∧ e1 = e := by simpa [decT, hg, h1] using hT
    obtain ⟨rfl, rfl⟩ := hR
    refine pan_one (c0 := [.sl (bC text)]) (c1 := [.sl (bC text)]) 2 rfl (takeI_bad text nx e1 u1 (by omega) hg h1) rfl (Nat.lt_succ_self 2) rfl ?_
    exact rec_end rfl rfl rfl rfl (by simp)
  subst h1
  have hb1 : (text.drop u1).length ≤ 1000000 := by rw [List.length_drop]; omega
  have hT2 : decR nx (text.drop u1) = (t, e) := by simpa [decT, hg] using hT
  refine .inl (callB_one (c0 := [.sl (bC text)]) (c1 := [.sl (bC (text.drop u1))]) 2 rfl (takeI_ok text nx u1 (by omega) hg) rfl (Nat.lt_succ_self 2) rfl rfl ?_)
  clear hT hg
  generalize text.drop u1 = b1 at *
  simp -implicitDefEqProofs only [pkX, canPan, pkA, ptA, ↓reduceIte, Nat.reduceEqDiff, Nat.reduceAdd, Nat.reduceBEq, Nat.reduceMul, Nat.reduceLT, Nat.reduceLeDiff, Nat.zero_add, decide_true]
  rcases hg : getI b1 with ⟨cnt, u2, e2⟩
  by_cases h2 : e2 = 0
  case neg =>
    have hR : tb0 = t ∧ e2 = e := by simpa [decR, hg, h2] using hT2
    obtain ⟨rfl, rfl⟩ := hR
    refine pan_one (c0 := [.sl (bC b1)]) (c1 := [.sl (bC b1)]) 2 rfl (takeI_bad b1 cnt e2 u2 (by omega) hg h2) rfl (Nat.lt_succ_self 2) rfl ?_
    exact rec_end rfl rfl rfl rfl (by simp)
  subst h2
  have hb2 : (b1.drop u2).length ≤ 1000000 := by rw [List.length_drop]; omega
  refine .inl (callB_one (c0 := [.sl (bC b1)]) (c1 := [.sl (bC (b1.drop u2))]) 2 rfl (takeI_ok b1 cnt u2 (by omega) hg) rfl (Nat.lt_succ_self 2) rfl rfl ?_)
  simp -implicitDefEqProofs only [pkX, canPan, pkA, ↓reduceIte, Nat.reduceAdd, Nat.reduceBEq]
  refine call_fn rfl (within_ok cnt 0 4096) (fun _ => rfl) ?_
  cases hw : wi cnt 0 4096
  case false =>
    have hR : tb0 = t ∧ 6 = e := by simpa [decR, hg, hw] using hT2
    obtain ⟨rfl, rfl⟩ := hR
    simp -implicitDefEqProofs only [pkX, canPan, pkA, ↓reduceIte, Nat.reduceAdd, Nat.reduceBEq]
    refine pan_ifc ifcE rfl ?_
    exact rec_end rfl rfl rfl rfl (by simp)
  have hT3 : decE nx (decL cnt.toNat [] (b1.drop u2) false) = (t, e) := by simpa [decR, hg, hw] using hT2
  clear hT2 hg
  generalize b1.drop u2 = b2 at *
  simp -implicitDefEqProofs only [pkX, pkA, ↓reduceIte, Nat.reduceEqDiff, Nat.reduceAdd, Nat.reduceBEq]
  obtain ⟨m, rfl⟩ : ∃ m : Nat, cnt = (m : Int) := ⟨cnt.toNat, by simp [wi] at hw; omega⟩
  have hm : m ≤ 4096 := by simp [wi] at hw; omega
  rw [Int.toNat_natCast] at hT3
  clear hw hb1 hl
  refine prun_loop (fun y : Nat × List Ky × B × Bool => hdS [(2, .bp 0 0), (3, .bp 1 0), (4, .bp 2 0), (5, bo y.2.2.2), (18, i64 (m : Nat)), (19, i64 (y.1 : Nat))] [[V.c (ic nx), .ow (if y.2.1.isEmpty then none else EK) (y.2.1.map kC)], [i64 0], [bv y.2.2.1]]) (fun y => m - y.1)
    (fun y => y.1 ≤ m ∧ y.2.1.length = y.1 ∧ y.2.2.1.length ≤ 1000000 ∧ decE nx (decL (m - y.1) y.2.1 y.2.2.1 y.2.2.2) = (t, e)) (0, [], b2, false) ⟨Nat.zero_le _, rfl, hb2, hT3⟩ ?_ ?_
  · refine le_hd rfl (show 2 ≤ 3 by decide) (by simp) (by simp [FL, up_apply]) (by simp [BL, up_apply])
  clear hT3 hb2
  rintro ⟨j, ks, r, st⟩ ⟨hj, hk, hr, hT⟩ R hnorm hexit hret
  simp only at hj hk hr hT
  by_cases hlt : j < m
  · have d1 : decide (((j : Nat) : Int) < (m : Nat)) = true := by simp; omega
    have hs : m - j = (m - (j + 1)) + 1 := by omega
    rw [hs] at hT
    simp -implicitDefEqProofs only [pkX, canPan, pkA, ↓reduceIte, Nat.reduceEqDiff, Nat.reduceAdd, Nat.reduceBEq, Nat.zero_add, d1]
    rcases hg : getIs r with ⟨l, u3, e3⟩
    by_cases h3 : e3 = 0
    case neg =>
      have hR : tb0 = t ∧ e3 = e := by simpa [decL, hg, h3, decE] using hT
      obtain ⟨rfl, rfl⟩ := hR
      refine pan_one (c0 := [.sl (bC r)]) (c1 := [.sl (bC r)]) 2 rfl (takeL_bad r l e3 u3 (by omega) hg h3) rfl (Nat.lt_succ_self 2) rfl ?_
      exact rec_end rfl rfl rfl rfl (by simp)
    subst h3
    obtain ⟨g3, _, _⟩ := getIs_dec hg
    have hr3 : (r.drop u3).length ≤ 1000000 := by rw [List.length_drop]; omega
    refine .inl (callB_one (c0 := [.sl (bC r)]) (c1 := [.sl (bC (r.drop u3))]) 2 rfl (takeL_ok r l u3 (by omega) hg g3) rfl (Nat.lt_succ_self 2) rfl rfl ?_)
    simp -implicitDefEqProofs only [pkX, canPan, pkA, ptA, ↓reduceIte, Nat.reduceAdd, Nat.reduceBEq, mC_len]
    by_cases h8 : l.length = 8
    case neg =>
      have hR : tb0 = t ∧ 6 = e := by simpa [decL, hg, h8, decE] using hT
      obtain ⟨rfl, rfl⟩ := hR
      have d8 : (!decide (((l.length : Nat) : Int) = 8)) = true := by simp; omega
      simp -implicitDefEqProofs only [pkX, canPan, pkA, ↓reduceIte, Nat.reduceAdd, Nat.reduceBEq, d8]
      refine pan_ifc ifcE rfl ?_
      exact rec_end rfl rfl rfl rfl (by simp)
    have d8 : (!decide (((l.length : Nat) : Int) = 8)) = false := by simp; omega
    simp -implicitDefEqProofs only [pkX, pkA, ↓reduceIte, Nat.reduceEqDiff, Nat.reduceAdd, Nat.reduceBEq, d8]
    refine join_vgdK (fun s' => (s'.fr 2 = .bp 0 0 ∧ s'.fr 3 = .bp 1 0 ∧ s'.fr 4 = .bp 2 0 ∧ s'.fr 5 = bo (st || !wi (l.getD 7 0) 0 1) ∧ s'.fr 7 = .c (.sl (mC ic l)) ∧ s'.fr 18 = i64 (m : Nat) ∧ s'.fr 19 = i64 (j : Nat)) ∧
      s'.bx 0 = [V.c (ic nx), .ow (if ks.isEmpty then none else EK) (ks.map kC)] ∧ s'.bx 1 = [i64 0] ∧ s'.bx 2 = [bv (r.drop u3)] ∧ s'.nb = 3) ?_ ?_
    rotate_left
    · intro K' hK'
      match l, h8 with
      | [l0, l1, l2, l3, l4, l5, l6, l7], _ =>
      have hg7 : [l0, l1, l2, l3, l4, l5, l6, l7].getD 7 0 = l7 := rfl
      rw [hg7] at hK'
      cases st
      · simp -implicitDefEqProofs only [pkA, ↓reduceIte, Nat.reduceEqDiff, Nat.reduceAdd, Nat.reduceBEq, Nat.zero_add]
        refine ia_mC ti_34 rfl ti_3 rfl (k := 7) rfl rfl ?_
        simp -implicitDefEqProofs only [pkA, ptA, ↓reduceIte, Nat.reduceEqDiff, Nat.reduceAdd, Nat.reduceBEq]
        refine call_fn rfl (within_ok l7 0 1) (fun _ => rfl) ?_
        cases hww : wi l7 0 1
        all_goals rw [hww] at hK'
        · simp -implicitDefEqProofs only [pkA, ↓reduceIte, Nat.reduceEqDiff]
          exact hK' _ ⟨⟨rfl, rfl, rfl, rfl, rfl, rfl, rfl⟩, rfl, rfl, rfl, rfl⟩
        · simp -implicitDefEqProofs only [pkA, ↓reduceIte, Nat.reduceEqDiff]
          exact hK' _ ⟨⟨rfl, rfl, rfl, rfl, rfl, rfl, rfl⟩, rfl, rfl, rfl, rfl⟩
      · simp -implicitDefEqProofs only [pkA, ↓reduceIte, Nat.reduceEqDiff, Nat.reduceAdd, Nat.zero_add]
        exact hK' _ ⟨⟨rfl, rfl, rfl, rfl, rfl, rfl, rfl⟩, rfl, rfl, rfl, rfl⟩
    rintro ⟨fr, bx, nb⟩ ⟨⟨f2, f3, f4, f5, f7, f18, f19⟩, x0, x1, x2, xn⟩
    simp only at f2 f3 f4 f5 f7 f18 f19 x0 x1 x2 xn
    subst xn
    simp -implicitDefEqProofs only [pkX, pkA, ↓reduceIte, Nat.reduceAdd, Nat.reduceBEq]
    refine spl_of 0 1 64 rfl (show 0 < 3 by decide) (show (bx 0)[1]? = _ by rw [x0]; rfl) rfl ?_
    intro v
    rcases hB : getB (r.drop u3) with ⟨x, u4, e4⟩
    by_cases h4 : e4 = 0
    case neg =>
      have hR : tb0 = t ∧ e4 = e := by simpa [decL, hg, h8, hB, h4, decE] using hT
      obtain ⟨rfl, rfl⟩ := hR
      refine .inr ⟨8, _, rfl, by kernel_rfl, ?_, fun fr' hf => ?_⟩
      · refine vops_ahead (fun l => l.take 8 ++ (l.drop 9).take 19) (by kernel_rfl) ?_
        match l, h8 with
        | [l0, l1, l2, l3, l4, l5, l6, l7], _ =>
        simp -implicitDefEqProofs only [pkA, ptA, ↓reduceIte, Nat.reduceEqDiff, Nat.reduceAdd, Nat.reduceBEq, Nat.reduceMul, Nat.reduceLT, Nat.zero_add, decide_true, List.take, List.drop, f2, f7, x0, S.split]
        refine ia_mC ti_34 rfl ti_3 rfl (k := 0) rfl rfl ?_
        simp -implicitDefEqProofs only [pkA, ptA, ↓reduceIte, Nat.reduceEqDiff, Nat.reduceAdd, Nat.reduceBEq, f7]
        refine ia_mC ti_34 rfl ti_3 rfl (k := 1) rfl rfl ?_
        simp -implicitDefEqProofs only [pkA, ptA, ↓reduceIte, Nat.reduceEqDiff, Nat.reduceAdd, Nat.reduceBEq, f7]
        refine ia_mC ti_34 rfl ti_3 rfl (k := 2) rfl rfl ?_
        simp -implicitDefEqProofs only [pkA, ptA, ↓reduceIte, Nat.reduceEqDiff, Nat.reduceAdd, Nat.reduceBEq, f7]
        refine ia_mC ti_34 rfl ti_3 rfl (k := 3) rfl rfl ?_
        simp -implicitDefEqProofs only [pkA, ptA, ↓reduceIte, Nat.reduceEqDiff, Nat.reduceAdd, Nat.reduceBEq, f7]
        refine ia_mC ti_34 rfl ti_3 rfl (k := 4) rfl rfl ?_
        simp -implicitDefEqProofs only [pkA, ptA, ↓reduceIte, Nat.reduceEqDiff, Nat.reduceAdd, Nat.reduceBEq, f7]
        refine ia_mC ti_34 rfl ti_3 rfl (k := 5) rfl rfl ?_
        simp -implicitDefEqProofs only [pkA, ptA, ↓reduceIte, Nat.reduceEqDiff, Nat.reduceAdd, Nat.reduceBEq, f7]
        refine ia_mC ti_34 rfl ti_3 rfl (k := 6) rfl rfl ?_
        simp -implicitDefEqProofs only [pkA, ptA, ↓reduceIte, Nat.reduceEqDiff, Nat.reduceAdd, Nat.reduceBEq, f7]
        refine ia_mC ti_34 rfl ti_3 rfl (k := 7) rfl rfl ?_
        simp -implicitDefEqProofs only [pkA, ptA, ↓reduceIte, Nat.reduceAdd, Nat.reduceBEq]
      · have hf4 : fr' 4 = .bp 2 0 := (hf 4 (of_decide_eq_true (by kernel_rfl))).trans f4
        have hf2 : fr' 2 = .bp 0 0 := (hf 2 (of_decide_eq_true (by kernel_rfl))).trans f2
        have hf3 : fr' 3 = .bp 1 0 := (hf 3 (of_decide_eq_true (by kernel_rfl))).trans f3
        have y0 : up bx 0 ((bx 0).set 1 (.c (.ex v))) 0 = [V.c (ic nx), V.c (.ex v)] := by simp [x0]
        have y1 : up bx 0 ((bx 0).set 1 (.c (.ex v))) 1 = [i64 0] := by simp [up_apply, x1]
        have y2 : up bx 0 ((bx 0).set 1 (.c (.ex v))) 2 = [bv (r.drop u3)] := by simp [up_apply, x2]
        simp only [S.split]
        generalize up bx 0 ((bx 0).set 1 (.c (.ex v))) = bx' at *
        refine panC_one (c0 := [.sl (bC (r.drop u3))]) (c1 := [.sl (bC (r.drop u3))]) (all := [.bp 2 0, .c (.fn (.func 54) [] [])]) 2 rfl ?_ (takeB_bad (r.drop u3) x e4 u4 (by omega) hB h4) ?_ (Nat.lt_succ_self 2) y2 ?_
        · exact congrArg (fun z => some (_, [z, _])) hf4
        · rfl
        · exact rec_end (a := ic nx) (b := .c (.ex v)) (c := ic 0) hf2 hf3 (by simp [up_apply, y0]) (by simp [up_apply, y1]) (by simp)
    subst h4
    refine .inl ?_
    simp -implicitDefEqProofs only [pkA, ptA, ↓reduceIte, Nat.reduceEqDiff, Nat.reduceAdd, Nat.reduceBEq, Nat.reduceMul, Nat.reduceLT, Nat.zero_add, decide_true, f2, f7, x0, S.split]
    match l, h8 with
    | [l0, l1, l2, l3, l4, l5, l6, l7], _ =>
    have hr4 : ((r.drop u3).drop u4).length ≤ 1000000 := by rw [List.length_drop]; omega
    obtain ⟨g4, _⟩ := getB_ok hB
    refine ia_mC ti_34 rfl ti_3 rfl (k := 0) rfl rfl ?_
    simp -implicitDefEqProofs only [pkA, ptA, ↓reduceIte, Nat.reduceEqDiff, Nat.reduceAdd, Nat.reduceBEq, f7]
    refine ia_mC ti_34 rfl ti_3 rfl (k := 1) rfl rfl ?_
    simp -implicitDefEqProofs only [pkA, ptA, ↓reduceIte, Nat.reduceEqDiff, Nat.reduceAdd, Nat.reduceBEq, f4]
    refine callB_one (c0 := [.sl (bC (r.drop u3))]) (c1 := [.sl (bC ((r.drop u3).drop u4))]) 2 rfl (takeB_ok (r.drop u3) x u4 (by omega) hB g4) rfl (Nat.lt_succ_self 2) (by simp [up_apply, x2]) rfl ?_
    refine ⟨lcOk_up (by decide) rfl, ?_⟩
    simp -implicitDefEqProofs only [pkA, ↓reduceIte, Nat.reduceEqDiff, Nat.reduceBEq, f7]
    refine ia_mC ti_34 rfl ti_3 rfl (k := 2) rfl rfl ?_
    simp -implicitDefEqProofs only [pkA, ptA, ↓reduceIte, Nat.reduceEqDiff, Nat.reduceAdd, Nat.reduceBEq, f7]
    refine ia_mC ti_34 rfl ti_3 rfl (k := 3) rfl rfl ?_
    simp -implicitDefEqProofs only [pkA, ptA, ↓reduceIte, Nat.reduceEqDiff, Nat.reduceAdd, Nat.reduceBEq, f7]
    refine ia_mC ti_34 rfl ti_3 rfl (k := 4) rfl rfl ?_
    simp -implicitDefEqProofs only [pkA, ptA, ↓reduceIte, Nat.reduceEqDiff, Nat.reduceAdd, Nat.reduceBEq, f7]
    refine ia_mC ti_34 rfl ti_3 rfl (k := 5) rfl rfl ?_
    simp -implicitDefEqProofs only [pkA, ptA, ↓reduceIte, Nat.reduceEqDiff, Nat.reduceAdd, Nat.reduceBEq, f7]
    refine ia_mC ti_34 rfl ti_3 rfl (k := 6) rfl rfl ?_
    simp -implicitDefEqProofs only [pkA, ptA, ↓reduceIte, Nat.reduceEqDiff, Nat.reduceAdd, Nat.reduceBEq, f7]
    refine ia_mC ti_34 rfl ti_3 rfl (k := 7) rfl rfl ?_
    simp -implicitDefEqProofs only [pkA, ptA, ↓reduceIte, Nat.reduceEqDiff, Nat.reduceAdd, Nat.reduceBEq, Nat.reduceMul, Nat.reduceLeDiff, Nat.zero_add]
    refine gh_app (v := v) (E := if ks.isEmpty then none else EK) (es := ks.map kC) rfl rfl (by decide) ?_
    simp -implicitDefEqProofs only [pkA, ↓reduceIte]
    refine apK (k := ⟨l0, l1, x, l2, l3, l4, l5, l6, decide (l7 = 1)⟩) (by cases ks <;> simp) (by simp; omega) (by simp [kC_len]) ?_
    have hw0 : IntKind.i64.wrap ((j : Int) + 1) = ((j + 1 : Nat) : Int) := wrap_of (by omega) (by omega)
    simp -implicitDefEqProofs only [pkX, pkA, ptA, ↓reduceIte, Nat.reduceEqDiff, Nat.reduceAdd, Nat.reduceBEq, Nat.reduceMul, Nat.reduceLT, Nat.reduceLeDiff, Nat.zero_add, decide_true, f2, f19, hw0]
    refine hnorm (j + 1, ks ++ [⟨l0, l1, x, l2, l3, l4, l5, l6, decide (l7 = 1)⟩], (r.drop u3).drop u4, st || !wi l7 0 1) _ ⟨by omega, by simp [hk], hr4, ?_⟩ (by simp; omega) ?_
    · rw [← hT]
      have e8 : ([l0, l1, l2, l3, l4, l5, l6, l7] : List Int).length = 8 := rfl
      have ek : keyD [l0, l1, l2, l3, l4, l5, l6, l7] x = ⟨l0, l1, x, l2, l3, l4, l5, l6, decide (l7 = 1)⟩ := rfl
      have eg : ([l0, l1, l2, l3, l4, l5, l6, l7] : List Int).getD 7 0 = l7 := rfl
      simp only [decL, hg, hB, e8, ek, eg, ne_eq, not_true_eq_false, if_false]
    · refine le_hd rfl (show 2 ≤ 3 by decide) ?_ ?_ ?_
      · simp
      · simp [FL, up_apply, f2, f3, f4, f5, f18]
      · simp [BL, up_apply, x1]
  · obtain rfl : j = m := by omega
    have d1 : decide (((j : Nat) : Int) < (j : Nat)) = false := by simp
    rw [Nat.sub_self] at hT
    simp only [decL] at hT
    simp -implicitDefEqProofs only [pkX, pkA, ↓reduceIte, Nat.reduceEqDiff, Nat.reduceAdd, Nat.reduceBEq, Nat.zero_add, d1]
    refine hexit _ _ ?_
    clear hexit hnorm hret
    by_cases h0 : 0 < r.length
    · have d0 : decide ((0 : Int) < ((bC r).length : Nat)) = true := decide_eq_true (by rw [bC_len]; omega)
      have hR : tb0 = t ∧ 6 = e := by simpa [decE, h0] using hT
      obtain ⟨rfl, rfl⟩ := hR
      simp -implicitDefEqProofs only [pkX, canPan, pkA, ptA, ↓reduceIte, Nat.reduceEqDiff, Nat.reduceAdd, Nat.reduceBEq, Nat.reduceMul, Nat.reduceLT, decide_true, d0]
      refine pan_ifc ifcE rfl ?_
      exact rec_end rfl rfl rfl rfl (by simp)
    have d0 : decide ((0 : Int) < ((bC r).length : Nat)) = false := decide_eq_false (by rw [bC_len]; omega)
    cases st
    case true =>
      have hR : tb0 = t ∧ 6 = e := by simpa [decE, h0] using hT
      obtain ⟨rfl, rfl⟩ := hR
      simp -implicitDefEqProofs only [pkX, canPan, pkA, ptA, ↓reduceIte, Nat.reduceEqDiff, Nat.reduceAdd, Nat.reduceBEq, Nat.reduceMul, Nat.reduceLT, decide_true, d0]
      refine pan_ifc ifcE rfl ?_
      exact rec_end rfl rfl rfl rfl (by simp)
    have hvo := valid_ok (G := G) ⟨nx, ks⟩ (by simp; omega)
    simp -implicitDefEqProofs only [pkX, pkA, ptA, ↓reduceIte, Nat.reduceEqDiff, Nat.reduceAdd, Nat.reduceBEq, Nat.reduceMul, Nat.reduceLT, Nat.zero_add, decide_true, d0]
    refine call_fn rfl hvo (fun _ => rfl) ?_
    cases hv : validT ⟨nx, ks⟩
    · have hR : tb0 = t ∧ 6 = e := by simpa [decE, h0, hv] using hT
      obtain ⟨rfl, rfl⟩ := hR
      simp -implicitDefEqProofs only [pkX, canPan, pkA, ↓reduceIte, Nat.reduceEqDiff, Nat.reduceAdd, Nat.reduceBEq]
      refine pan_ifc ifcE rfl ?_
      exact rec_end rfl rfl rfl rfl (by simp)
    · have hR : (⟨nx, ks⟩ : Tb) = t ∧ 0 = e := by simpa [decE, h0, hv] using hT
      obtain ⟨rfl, rfl⟩ := hR
      simp -implicitDefEqProofs only [pkX, pkA, ptA, ↓reduceIte, Nat.reduceEqDiff, Nat.reduceAdd, Nat.reduceBEq, Nat.reduceMul, Nat.reduceLT, Nat.reduceLeDiff, Nat.zero_add, decide_true]
      refine retV_cc ?_ ?_
      · show vload Tryd.prog 24 _ (.bp 0 0) _
        rw [ldA_of ti_24 rfl rfl]
        exact ⟨rfl, lda_tv (t := ⟨nx, ks⟩) (Nat.zero_lt_succ _) rfl⟩
      · show vload Tryd.prog 29 _ (.bp 1 0) _
        rw [ldB_of ti_29 rfl]
        exact ⟨rfl, Nat.lt_succ_of_lt (Nat.lt_succ_self 1), rfl⟩
end Go.Proofs.YtidlohfkfdeaiaaDoor
