/- The engine of layer 17: run. -/
import Derived.Test.YthgmobkmmapgoaaGreatVlE8
set_option linter.unusedSimpArgs false
set_option linter.unusedVariables false
namespace Go.Proofs.YthgmobkmmapgoaaGreat
open Go Go.Vl
variable {G : Gl}
set_option maxRecDepth 4000
def topT (p : Pol) (o : Option Fa) (i : Nat) : List In := (tops p o).getD i []
def restT (p : Pol) (o : Option Fa) (i : Nat) : List In := ((tops p o).drop i).flatten
theorem restT_cons {p : Pol} {o : Option Fa} {i : Nat} (h : i < 15) : restT p o i = topT p o i ++ restT p o (i + 1) := by
 unfold restT topT
 have hl : i < (tops p o).length := h
 rw [List.drop_eq_getElem_cons hl, List.flatten_cons, List.getD_eq_getElem?_getD, List.getElem?_eq_getElem hl]
 rfl
theorem top_ok {σ : Type} (Y : Ys σ) (p : Pol) (o : Option Fa) (hp : p.types.length ≤ 9223372036854775806) (hr : p.rules.length ≤ 9223372036854775806) (h10 : F10 G Y p o) (i : Nat) (hi : i < 15) (s : σ) (hF : Fut G Y s (topT p o i)) :
  FnB Tryz.prog G (68 + i) [.bp (kx Y.k 0) 0] (Y.yb s ++ [eng p o]) (bo (runS Y.step s (topT p o i)).2) (Y.yb (runS Y.step s (topT p o i)).1 ++ [eng p o]) := by
 match i, hi with
 | 0, _ => exact top1_ok Y p o hp hr s hF
 | 1, _ => exact top2_ok Y p o hp hr s hF
 | 2, _ => exact top3_ok Y p o hp hr s hF
 | 3, _ => exact top4_ok Y p o hp hr s hF
 | 4, _ => exact top5_ok Y p o hp hr s hF
 | 5, _ => exact top6_ok Y p o hp hr s hF
 | 6, _ => exact top7_ok Y p o hp hr s hF
 | 7, _ => exact top8_ok Y p o hp hr s hF
 | 8, _ => exact top9_ok Y p o hp hr s hF
 | 9, _ => exact top10_ok Y p o hp hr h10 s hF
 | 10, _ => exact top11_ok Y p o hp hr s hF
 | 11, _ => exact top12_ok Y p o hp hr s hF
 | 12, _ => exact top13_ok Y p o hp hr s hF
 | 13, _ => exact seals_ok Y p o s hF
 | 14, _ => exact top15_ok Y p o hp hr s hF
def meth (k i : Nat) : V := .clo (.func (68 + i)) [.bp (kx k 0) 0] []
def methL (k : Nat) : List V := (List.range 15).map (meth k)
theorem methL_at {k i : Nat} (h : i < 15) : (methL k)[i]? = some (meth k i) := by
 unfold methL
 rw [List.getElem?_map, List.getElem?_range h]; rfl
theorem envEnd0 {σ : Type} {Y : Ys σ} {s : σ} {ls rest : List (List V)} {m n : Nat} {fr : Nat → V} {e : VE} (he : isEnd e = true) (hm : ls.length = m) (hn : (ls ++ rest).length = n) (hls : ltL (kx Y.k m) ls) :
  endB Tryz.prog (kx Y.k m) (.tup []) (Y.yb s ++ ls) [] e ⟨fr, bxs (Y.yb s ++ (ls ++ rest)), kx Y.k n⟩ :=
 end_E [] he (Y.len s) (Y.lt s) hm hn hls (fun _ h => by cases h) trivial retV_none
theorem envLeJ {σ : Type} {Y : Ys σ} {s : σ} {ls : List (List V)} {m j : Nat} {l : List (Nat × V)} {fr : Nat → V} (hj : j ≤ m) (hm : ls.length = m) (hls : ltL (kx Y.k m) ls) (hl : ∀ q ∈ l, q.2.lt (kx Y.k m)) (h1 : FL l fr) : S.Le (kx Y.k j) (hdS l (Y.yb s ++ ls)) ⟨fr, bxs (Y.yb s ++ ls), kx Y.k m⟩ := by
 have := le_E (rest := []) (Y := Y.yb s) (ls := ls) (n := m) (j := j) (Y.len s) (Y.lt s) hm (by simpa using hm) hls hl h1 hj
 simpa using this
theorem bsB_ok {P : Program} {T e : TypeId} {i j : TI} {z : List C} {len : Nat} {parts : List (Nat × V)} {L : List V} {fr : Nat → V} {bx : Nat → List V} {nb d : Nat} {K : S → Prop} (hT : ti P T = some i) (hk : i.kd = .slice e) (hE : ti P e = some j) (hs : j.size = 1) (hz : j.zero = some z) (hzl : z.length = 1)
  (hp : parts.map (·.1) = List.range len) (ho : (parts.all fun p => p.2.fz.one) = true) (h0 : 0 < len) (hl : len ≤ 16777216) (hL : parts.map (fun p => p.2.fz) = L) (hK : K ⟨up fr d (.ms nb 0 len len 1), up bx nb L, nb + 1⟩) : vbuildB P T len parts ⟨fr, bx, nb⟩ (some d) K := by
 obtain ⟨kd, a, b, c, q, f, g⟩ := i
 simp only at hk; subst hk
 obtain ⟨kd', a', b', c', q', f', g'⟩ := j
 simp only at hs hz; subst hs; subst hz
 unfold vbuildB
 simp only [hT, hE]
 rw [List.all_eq_true] at ho
 exact ⟨⟨trivial, hzl, hp, ho, h0, hl⟩, by rw [hL]; exact hK⟩
theorem methL_lt {k : Nat} : ∀ x ∈ methL k, x.lt (kx k 2) := fun x hx => by
 obtain ⟨i, _, rfl⟩ := List.mem_map.1 hx
 refine ⟨fun q hq => ?_, fun q hq => by cases hq⟩
 simp only [List.mem_singleton] at hq; subst hq; simp only [V.ltP, kx_lt]; decide
set_option maxHeartbeats 1000000 in
theorem run_ok {σ : Type} (Y : Ys σ) (p : Pol) (o : Option Fa) (hp : p.types.length ≤ 9223372036854775806) (hr : p.rules.length ≤ 9223372036854775806) (h10 : F10 G Y p o) (s : σ) (hF : Fut G Y s (allL p o)) :
  FnB Tryz.prog G 54 [.bp (kx Y.k 0) 0] (Y.yb s ++ [eng p o]) (.tup []) (Y.yb (runS Y.step s (allL p o)).1 ++ [eng p o]) := by
 have hls : ltL (kx Y.k 1) [eng p o] := lt_cons (eng_ltm Y.pos) lt_nil
 refine FnB_byE (k := Y.k) (m := 1) (rs := []) [1400034, 1000041] mixed Tryz.func54 rfl rfl rfl rfl (by kernel_rfl) (by simp) rfl (Y.len s) (Y.len _) (Y.lt s) rfl hls (va_cons (bp_lt (by decide)) va_nil) ?_
 simp -implicitDefEqProofs only [pkA, ↓reduceIte, Nat.reduceEqDiff, Nat.reduceAdd, Nat.reduceBEq, pkB Y _]
 refine .inl (bsB_ok ti_94 rfl ti_30 rfl rfl rfl rfl rfl (by decide) (by decide) (L := methL Y.k) rfl ?_)
 have hms : (V.ms (kx Y.k 1) 0 15 15 1).lt (kx Y.k 2) := by simp only [V.lt, kx_lt]; decide
 have hls2 : ltL (kx Y.k 2) [eng p o, methL Y.k] := lt_cons (eng_ltm Y.pos) (lt_cons methL_lt lt_nil)
 simp -implicitDefEqProofs only [pkA, ptA, ↓reduceIte, Nat.reduceAdd, Nat.reduceBEq, pkB Y _, kx_succ]
 refine run_loop (fun x : Nat × σ => hdS [(34, .ms (kx Y.k 1) 0 15 15 1), (35, i64 15), (36, i64 x.1)] (Y.yb x.2 ++ [eng p o, methL Y.k])) (fun x => 15 - x.1)
  (fun x => x.1 ≤ 15 ∧ Fut G Y x.2 (restT p o x.1) ∧ runS Y.step s (allL p o) = runS Y.step x.2 (restT p o x.1)) (0, s) ⟨Nat.zero_le _, hF, rfl⟩ ?_ ?_
 ·exact envLeJ (by decide) rfl hls2 (fm_cons hms (fm_cons trivial (fm_cons trivial fm_nil))) (by simp [FL, up_apply])
 rintro ⟨i, s'⟩ ⟨hi, hFi, hri⟩ R hnorm hexit hret
 simp only at hi hFi hri
 simp -implicitDefEqProofs only [pkA, ↓reduceIte, Nat.reduceEqDiff, Nat.reduceAdd, Nat.reduceBEq, pkB Y _, env_len]
 refine vcond_of (fun hlt => ?_) (fun hge => ?_)
 ·have hlt : i < 15 := by simp at hlt; omega
  rw [restT_cons hlt, runS_app] at hri
  rw [restT_cons hlt] at hFi
  have hw := wrap_of (n := (i : Int) + 1) (k := i + 1) (by omega) (by omega)
  simp -implicitDefEqProofs only [pkA, ↓reduceIte, Nat.reduceEqDiff, Nat.reduceAdd, Nat.reduceBEq, pkB Y _]
  refine ia_ms ti_94 rfl ti_30 rfl (by decide) (Int.natCast_nonneg i) (by omega) ?_
  have hld : ∀ K, ldB (kx Y.k 2) (kx Y.k 1) (methL Y.k) (0 + ((i : Int)).toNat * 1) K = K (.clo (.func (68 + i)) [.bp (kx Y.k 0) 0] []) := fun K => by
   unfold ldB
   rw [kx_lt, show 0 + ((i : Int)).toNat * 1 = i by simp, methL_at hlt]
   simp only [meth, ldv_clo]
   exact propext ⟨fun h => h.2, fun h => ⟨by decide, h⟩⟩
  have hml : isMb (methL Y.k) = false := rfl
  simp -implicitDefEqProofs only [pkA, ptA, ↓reduceIte, Nat.reduceAdd, Nat.reduceBEq, Nat.reduceMul, pkB Y _, hld, hml]
  refine callB_pre (ls := [eng p o]) (rest := [methL Y.k]) rfl (top_ok Y p o hp hr h10 i hlt s' hFi.app.1) rfl (Y.len _) (Y.len _) (Y.lt _) rfl (fun _ => rfl) ?_
  simp -implicitDefEqProofs only [pkA, ↓reduceIte, pkB Y _]
  refine vcond_of (fun hn => ?_) (fun hn => ?_)
  ·have hn : (runS Y.step s' (topT p o i)).2 = false := by simpa using hn
   simp -implicitDefEqProofs only [pkA, pkB Y _]
   refine hret _ ?_
   rw [if_neg (by simp [hn])] at hri
   simp -implicitDefEqProofs only [pkA, pkB Y _]
   rw [hri]
   exact envEnd0 (rest := [methL Y.k]) rfl rfl rfl hls
  ·have hn : (runS Y.step s' (topT p o i)).2 = true := by simpa using hn
   rw [if_pos hn] at hri
   simp -implicitDefEqProofs only [pkA, ↓reduceIte, Nat.reduceEqDiff, Nat.reduceAdd, Nat.reduceBEq, pkB Y _]
   exact hnorm (i + 1, _) _ ⟨by simp only; omega, hFi.app.2 hn, hri⟩ (by simp only; omega) (envLeJ (by decide) rfl hls2 (fm_cons hms (fm_cons trivial (fm_cons trivial fm_nil))) (by simp [FL, up_apply, hw]))
 ·have : i = 15 := by simp at hge; omega
  subst this
  simp -implicitDefEqProofs only [pkA, pkB Y _]
  refine hexit _ _ ?_
  simp -implicitDefEqProofs only [pkA, ↓reduceIte, pkB Y _]
  have : runS Y.step s (allL p o) = (s', true) := hri
  rw [this]
  exact envEnd0 (rest := [methL Y.k]) rfl rfl rfl hls
end Go.Proofs.YthgmobkmmapgoaaGreat
/- The iterators of layer 17. -/
namespace Go.Proofs.YthgmobkmmapgoaaGreat
open Go Go.Vl
variable {G : Gl}
set_option maxRecDepth 4000
theorem bldZK_of {o : Option (List V)} {l : List V} {K : V → Prop} (h : o = some l) (hK : K (.mag l)) : bldZK K o := by
 subst h; exact hK
theorem callB_envT {σ : Type} {Y : Ys σ} {s s' : σ} {g : FuncId} {ls : List (List V)} {f : V} {args all cargs : List V} {n : Nat} {fr : Nat → V} {K : S → V → Prop} (hc : calleeV f args = some (g, all)) (hf : FnB Tryz.prog G g cargs (Y.yb s ++ ls) (.tup []) (Y.yb s' ++ ls)) (hall : all.map V.fz = cargs)
  (hn : ls.length = n) (hK : K ⟨fr, bxs (Y.yb s' ++ ls), kx Y.k n⟩ (.tup [])) : vcallB Tryz.prog G ⟨fr, bxs (Y.yb s ++ ls), kx Y.k n⟩ f args K := by
 have := callB_pre (rest := []) (n := n) (fr := fr) (K := K) hc hf hall (Y.len s) (Y.len s') (Y.lt s') (by simpa using hn) (fun _ => rfl) (by simpa using hK)
 simpa using this
theorem envEndN {σ : Type} {Y : Ys σ} {s : σ} {rest : List (List V)} {n : Nat} {fr : Nat → V} {e : VE} (he : isEnd e = true) (hn : rest.length = n) : endB Tryz.prog (kx Y.k 0) (.tup []) (Y.yb s) [] e ⟨fr, bxs (Y.yb s ++ rest), kx Y.k n⟩ := by
 have := envEnd0 (Y := Y) (s := s) (ls := []) (rest := rest) (m := 0) (n := n) (fr := fr) he rfl (by simpa using hn) lt_nil
 simpa using this
theorem Inst_ok {σ : Type} (Y : Ys σ) (p : Pol) (hp : p.types.length ≤ 9223372036854775806) (hr : p.rules.length ≤ 9223372036854775806) (s : σ) (hF : Fut G Y s (allL p none)) :
  FnB Tryz.prog G 53 [.yl 0, .c (.rp (poC p) 0)] (Y.yb s) (.tup []) (Y.yb (runS Y.step s (allL p none)).1) := by
 have h : FnB Tryz.prog G 53 [.yl 0, .c (.rp (poC p) 0)] (Y.yb s ++ []) (.tup []) (Y.yb (runS Y.step s (allL p none)).1 ++ []) := by
  refine FnB_byE (k := Y.k) (m := 0) (rs := []) [1000010, 2500008] mixed Tryz.func53 rfl rfl rfl rfl (by kernel_rfl) (by simp) rfl (Y.len s) (Y.len _) (Y.lt s) rfl lt_nil (va_cons (by simpa [V.lt, kx] using Y.pos) (va_cons trivial va_nil)) ?_
  simp -implicitDefEqProofs only [pkA, ptA, ↓reduceIte, Nat.reduceEqDiff, Nat.reduceAdd, Nat.reduceBEq, Nat.reduceLeDiff, pkE, pkB Y _, List.append_nil]
  refine bldZK_of (l := eng p none) (by rw [show (p.types.map tyC).length = p.types.length from List.length_map ..]; rfl) ?_
  simp -implicitDefEqProofs only [pkA, ↓reduceIte, Nat.reduceAdd, Nat.reduceBEq, pkB Y _, kx_succ]
  refine callB_envT (ls := [eng p none]) rfl (run_ok Y p none hp hr (F10all Y p _) s hF) rfl rfl ?_
  simp -implicitDefEqProofs only [pkA, pkB Y _]
  exact envEndN rfl rfl
 simpa using h
theorem Using_ok {σ : Type} (Y : Ys σ) (p : Pol) (f : Fa) (hp : p.types.length ≤ 9223372036854775806) (hr : p.rules.length ≤ 9223372036854775806) (s : σ) (hF : Fut G Y s (allL p (some f))) :
  FnB Tryz.prog G 83 [.yl 0, .c (.rp (poC p) 0), .c (.rp (faC f) 0)] (Y.yb s) (.tup []) (Y.yb (runS Y.step s (allL p (some f))).1) := by
 have h : FnB Tryz.prog G 83 [.yl 0, .c (.rp (poC p) 0), .c (.rp (faC f) 0)] (Y.yb s ++ []) (.tup []) (Y.yb (runS Y.step s (allL p (some f))).1 ++ []) := by
  refine FnB_byE (k := Y.k) (m := 0) (rs := []) [1000011, 2500009] mixed Tryz.func83 rfl rfl rfl rfl (by kernel_rfl) (by simp) rfl (Y.len s) (Y.len _) (Y.lt s) rfl lt_nil (va_cons (by simpa [V.lt, kx] using Y.pos) (va_cons trivial (va_cons trivial va_nil))) ?_
  simp -implicitDefEqProofs only [pkA, ptA, ↓reduceIte, Nat.reduceEqDiff, Nat.reduceAdd, Nat.reduceBEq, Nat.reduceLeDiff, pkE, pkB Y _, List.append_nil]
  refine bldZK_of (l := eng p (some f)) (by rw [show (p.types.map tyC).length = p.types.length from List.length_map ..]; rfl) ?_
  simp -implicitDefEqProofs only [pkA, ↓reduceIte, Nat.reduceAdd, Nat.reduceBEq, pkB Y _, kx_succ]
  refine callB_envT (ls := [eng p (some f)]) rfl (run_ok Y p (some f) hp hr (F10all Y p _) s hF) rfl rfl ?_
  simp -implicitDefEqProofs only [pkA, pkB Y _]
  exact envEndN rfl rfl
 simpa using h
end Go.Proofs.YthgmobkmmapgoaaGreat
/- Instances and Using of layer 17. -/
namespace Go.Proofs.YthgmobkmmapgoaaGreat
open Go Go.Vl
variable {G : Gl}
set_option maxRecDepth 4000
def instV (p : Pol) : V := .c (.fn (.func 53) [] [.rp (poC p) 0])
def usingV (p : Pol) (f : Fa) : V := .c (.fn (.func 83) [] [.rp (poC p) 0, .rp (faC f) 0])
theorem Instances_ok (p : Pol) : FnOK Tryz.prog G 21 [.agg (poC p)] (instV p) := by
 refine FnOK_by (rs := [.tmp 2]) true [] mixed Tryz.func21 rfl rfl rfl rfl (by kernel_rfl) (by simp) rfl rfl ?_
 simp -implicitDefEqProofs only [pkA, ↓reduceIte, Nat.reduceEqDiff, Nat.reduceAdd, retV_fz]
 rfl
theorem Using_fn_ok (p : Pol) (f : Fa) : FnOK Tryz.prog G 55 [.agg (poC p), .agg (faC f)] (usingV p f) := by
 refine FnOK_by (rs := [.tmp 4]) true [] mixed Tryz.func55 rfl rfl rfl rfl (by kernel_rfl) (by simp) rfl rfl ?_
 simp -implicitDefEqProofs only [pkA, ↓reduceIte, Nat.reduceEqDiff, Nat.reduceAdd, retV_fz]
 rfl
