/- Values without memory: a round of a loop over a function: its contract, from the loop's text. -/
import Derived.Test.YthgmobkmmapgoaaGreatVlRunB
set_option linter.unusedSimpArgs false
set_option linter.unusedVariables false
namespace Go.Vl
open Go Go.RowKit
section
variable {P : Program} {G : Gl} {tr : List Nat} {n : Nat} {I0 : Ft} {M : Mx} {w0 : World} {I : Ft} {β : Nat → Option Nat} {ob : Loc → Option Nat} {s : S} {a : Act} {w : World} {base : Nat → Prop} {v : Value} {x : V}
theorem KR.toLR (h : KR I β w v x) : LR base I β w none v x := by
 rcases h with rfl | ⟨h1, h2⟩ | h
 ·simp only [LR]; exact .un _
 ·exact .ofDR h2
 ·exact h.toLR
def frY (fl : List (Nat × V)) (ps : List Tmp) (xs : List V) : Nat → V := (ps.zip xs).foldl (fun f p => up f p.1 p.2) (frs fl)
def yjump (L : Loop) : VE → Loop
 | .normal => { L with state := .ready, pending := none }
 | .exit i => { L with state := .done, pending := some (.exit i) }
 | .ret => { L with state := .done, pending := some .ret }
def yres : VE → Bool
 | .normal => true
 | _ => false
def endY (k : Nat) (r : V) (b1 : List (List V)) (e : VE) (s : S) : Prop :=
 r = .c (.lit (.bool (yres e))) ∧ ∃ L fl, (s.bx 0 = [.lp L fl] ∧ 0 < s.nb) ∧ ∃ l, S.Le k (hdS l b1) { s with bx := up s.bx 0 [.lp (yjump L e) fl] }
theorem frs_mem : ∀ (fl : List (Nat × V)) (t : Nat), frs fl t = .un ∨ (t, frs fl t) ∈ fl
 | [], t => .inl rfl
 | (i, x) :: r, t => by
  by_cases h : t = i
  ·subst h; right; simp [frs]
  ·rcases frs_mem r t with h1 | h1
   ·left; simp [frs, up_apply, h, h1]
   ·right; simp [frs, up_apply, h, h1]
theorem frY_ok : ∀ (ps : List Tmp) (xs : List V) (us : List Value) (f : Nat → V) (tm : Array Value), ps.length = xs.length → us.length = xs.length → (∀ p ∈ ps, p < tm.size) →
  (∀ j x, xs[j]? = some x → LR base I β w none (us.getD j undef) x) → (∀ t, LR base I β w none (tm.getD t undef) (f t)) →
  (∀ t, LR base I β w none (((ps.zip us).foldl (fun tm (p : Tmp × Value) => tm.setIfInBounds p.1 p.2) tm).getD t undef) ((ps.zip xs).foldl (fun f (p : Tmp × V) => up f p.1 p.2) f t)) ∧
   ((ps.zip us).foldl (fun tm (p : Tmp × Value) => tm.setIfInBounds p.1 p.2) tm).size = tm.size
 | [], _, _, f, tm, _, _, _, _, hf => ⟨hf, rfl⟩
 | p :: ps, [], _, _, _, h, _, _, _, _ => by simp at h
 | p :: ps, x :: xs, [], _, _, _, h, _, _, _ => by simp at h
 | p :: ps, x :: xs, u :: us, f, tm, h1, h2, h3, h4, hf => by
  have hx : LR base I β w none u x := h4 0 x rfl
  have hp : p < tm.size := h3 p (List.mem_cons_self ..)
  obtain ⟨q1, q2⟩ := frY_ok ps xs us (up f p x) (tm.setIfInBounds p u) (by simpa using h1) (by simpa using h2) (fun q hq => by rw [Array.size_setIfInBounds]; exact h3 q (List.mem_cons_of_mem _ hq))
   (fun j y hy => by simpa using h4 (j + 1) y (by simpa using hy)) (fun t => by
    by_cases ht : t = p
    ·subst ht; rw [up_same, getD_set_same _ _ _ hp]; exact hx
    ·rw [up_ne _ _ ht, getD_set_ne _ _ _ _ ht]; exact hf t)
  exact ⟨q1, by rw [List.zip_cons_cons, List.foldl_cons, q2, Array.size_setIfInBounds]⟩
theorem St.initF {ob : Nat → Nat → Option Nat} {tm : Array Value} {fr : Nat → V} {b0 : List (List V)} (hI : ∀ b o, I b o → b < w.heap.size) (hg : GOK G I w) (hB : BxR (Wr M w) I w β ob b0) (hsz : tm.size = n)
  (hfr : ∀ t, LR (Wr M w) I β w none (tm.getD t undef) (fr t)) : St G n I ⟨M.m, β, []⟩ w I β (obB ob) ⟨fr, bxs b0, b0.length⟩ { tmps := tm, defers := [] } w := by
 have h0 : St G ((#[] : Array Value) ++ Array.replicate (0 - (#[] : Array Value).size) undef).size I ⟨M.m, β, []⟩ w I β (obB ob) ⟨fun j => ([] : List V).getD j .un, bxs b0, b0.length⟩ { tmps := #[] ++ Array.replicate (0 - (#[] : Array Value).size) undef, defers := [] } w :=
  St.initB (n := 0) (vs := #[]) (args := []) hI hg hB rfl (by simp) rfl
 exact {
  size := hsz, defers := rfl, below := h0.below, ilow := h0.ilow, kept := h0.kept, ihigh := h0.ihigh, ibnd := h0.ibnd
  fr := fun t => by simp only [obB]; exact hfr t
  bx := h0.bx, bnone := h0.bnone, ext := h0.ext, bnew := h0.bnew, binj := h0.binj, oinj := h0.oinj, obx := h0.obx, obnd := h0.obnd, glob := h0.glob }
theorem YB_of {L : Loop} {fl : List (Nat × V)} {xs : List V} {bs b1 : List (List V)} {r : V} (tr : List Nat) (hm : P.follows .mixedOrders = true) (hrdy : L.state = .ready) (hps : L.params.toList.length = xs.length)
  (hpl : ∀ p ∈ L.params.toList, p < L.defers) (hck1 : cok L.defers tr L.assign = true) (hck2 : cok L.defers tr L.body = true)
  (hwf : (∀ x ∈ xs, x.lt (bs.length + 1)) ∧ (∀ b ∈ [V.lp L fl] :: bs, ∀ x ∈ b, x.lt (bs.length + 1)) ∧ bs.length + 1 ≤ b1.length)
  (h : vwpK P G tr (bs.length + 1) L.assign (fun e s => e = .normal ∧ (s.bx 0 = [.lp L fl] ∧ 0 < s.nb) ∧ vwpK P G tr (bs.length + 1) L.body (endY (bs.length + 1) r b1) { s with bx := up s.bx 0 [.lp { L with state := .busy } fl] })
   ⟨frY fl L.params.toList xs, bxs ([V.lp L fl] :: bs), bs.length + 1⟩) (hrg : isRg tr = false := by rfl) : YB P G xs ([V.lp L fl] :: bs) r b1 := by
 refine ⟨hwf, fun I M w vs β ob l hI hg hB hβ0 hsz ha => ?_⟩
 obtain ⟨blk, cur, e1, e2, e3, e4, e5, e7⟩ := hB.bx 0 _ rfl
 rw [hβ0] at e1; cases e1
 obtain ⟨f, tm, d, ⟨h3, hts⟩, rfl⟩ : ∃ (f : FuncId) (tm : Array Value) (d : Nat), (w.heap[l]? = some (.loop { L with fn := f, tmps := tm, defers := d }) ∧ tm.size = L.defers) ∧ cur = #[.tuple tm] := e3
 have hfl : ∀ t x, (t, x) ∈ fl → KR I β w (tm.getD t undef) x := by
  have := e5 0
  have h5 : LR (Wr M w) I β w (ob 0 0) (.tuple tm) (.lp L fl) := this
  simp only [LR] at h5
  obtain ⟨tm', e, h6⟩ := h5
  cases e; exact h6
 have hy := run_yield (P := P) (args := vs) h3 (by rw [hsz]; simpa using hps.symm)
 have hzip : (L.params.zip vs).foldl (fun tmps (x : Tmp × Value) => tmps.setIfInBounds x.1 x.2) tm = (L.params.toList.zip vs.toList).foldl (fun tm (p : Tmp × Value) => tm.setIfInBounds p.1 p.2) tm := by
  rw [← Array.foldl_toList, Array.toList_zip]
 obtain ⟨hfr, hsize⟩ := frY_ok (base := Wr M w) (I := I) (β := β) (w := w) L.params.toList xs vs.toList (frs fl) tm hps (by simpa using hsz) (fun p hp => by rw [hts]; exact hpl p hp) (fun j x hx => by
   have := ha j x hx
   rw [List.getD_eq_getElem?_getD, Array.getElem?_toList, ← Array.getD_eq_getD_getElem?]; exact this)
  (fun t => by
   rcases frs_mem fl t with h1 | h1
   ·rw [h1]; simp only [LR]; exact .un _
   ·exact (hfl t _ h1).toLR)
 have hst := St.initF (n := L.defers) hI hg hB (hsize.trans hts) hfr
 have hβlt : ∀ i b, β i = some b → i < bs.length + 1 := fun i b hi => by
  by_cases h : i < bs.length + 1
  ·exact h
  ·rw [hB.bnone i (by simp; omega)] at hi; cases hi
 refine ⟨f, _, L.assign, L.body, hy, roundIn_of_wpIn (F := Fence.wide) trivial ?_⟩
 have hzip' : (Array.foldl (fun tmps x => match x with | (t, a) => tmps.setIfInBounds t a) tm (L.params.zip vs)) = (L.params.toList.zip vs.toList).foldl (fun tm (p : Tmp × Value) => tm.setIfInBounds p.1 p.2) tm := hzip
 show L.assign.wpIn (FW (some l)) 0 P _ { tmps := Array.foldl (fun tmps x => match x with | (t, a) => tmps.setIfInBounds t a) tm (L.params.zip vs), defers := [] } w
 rw [hzip']
 refine vwpK_soundIn (l := some l) (m := 0) hm (fun i b hi => hβlt i b hi) (.inr hrg) L.assign hck1 _ _ (fun e s1 a1 w1 hq hse => ?_) _ _ _ h (.of ⟨_, _, _, hst⟩)
 obtain ⟨rfl, ⟨hbx1, hnb1⟩, hq⟩ := hq
 obtain ⟨I1, β1, ob1, hst1⟩ := hse.se hrg
 have hl1 : β1 0 = some l := hst1.ext 0 l hβ0
 obtain ⟨blk, cur, g1, g2, g3, g4, g5, g7⟩ := hst1.bx 0 hnb1
 rw [hl1] at g1; cases g1
 rw [hbx1] at g3 g5
 obtain ⟨f1, tm1, d1, ⟨k3, kts⟩, rfl⟩ : ∃ (f : FuncId) (tm : Array Value) (d : Nat), (w1.heap[l]? = some (.loop { L with fn := f, tmps := tm, defers := d }) ∧ tm.size = L.defers) ∧ cur = #[.tuple tm] := g3
 refine ⟨_, run_beginRound k3 hrdy, ?_⟩
 have hst2 := hst1.reBox (o := .loop { { L with fn := f1, tmps := tm1, defers := d1 } with state := .busy }) (l := [.lp { L with state := .busy } fl]) (cur := #[.tuple tm1]) (od := fun j => ob1 (.b 0 j)) hnb1 hl1
  ⟨f1, tm1, d1, ⟨putObj_same (Array.getElem?_eq_some_iff.1 k3).1, kts⟩, rfl⟩ (Nat.le_refl _) (fun j => by
   have := g5 j
   cases j with
   | zero => exact this
   | succ j => simp only [List.getD_cons_succ, List.getD_nil, LR]; exact .un _) (fun j b hb => hb)
 refine vwpK_soundIn (l := some l) (m := 0) hm (fun i b hi => hβlt i b hi) (.inr hrg) L.body hck2 _ _ (fun e s3 a3 w3 hq hse => ?_) _ _ _ hq (.of ⟨_, _, _, hst2⟩)
 obtain ⟨rfl, L', fl', ⟨hbx3, hnb3⟩, lf, hle⟩ := hq
 obtain ⟨I3, β3, ob3, hst3⟩ := hse.se hrg
 have hl3 : β3 0 = some l := hst3.ext 0 l hβ0
 obtain ⟨blk, cur, g1, g2, g3, g4, g5, g7⟩ := hst3.bx 0 hnb3
 rw [hl3] at g1; cases g1
 rw [hbx3] at g3 g5
 obtain ⟨f3, tm3, d3, ⟨k3, kts⟩, rfl⟩ : ∃ (f : FuncId) (tm : Array Value) (d : Nat), (w3.heap[l]? = some (.loop { L' with fn := f, tmps := tm, defers := d }) ∧ tm.size = L'.defers) ∧ cur = #[.tuple tm] := g3
 have fin : ∀ (jump : Option Code) (L3 : Loop), L3 = { yjump L' e with fn := f3, tmps := tm3, defers := d3 } → (yjump L' e).defers = L'.defers → ∃ I' β' ob' o', BelowM M w (World.putObj w3 l (.loop L3)) ∧ (∀ b o, I b o → I' b o) ∧ (∀ b o, I' b o → I b o ∨ (Wr M w b ∧ b < (World.putObj w3 l (.loop L3)).heap.size)) ∧
   (∀ b o, I b o → (World.putObj w3 l (.loop L3)).cell? ⟨b, o, none⟩ = w.cell? ⟨b, o, none⟩) ∧ (∀ i, i < ([V.lp L fl] :: bs).length → β' i = β i) ∧ (∀ i b, ([V.lp L fl] :: bs).length ≤ i → β' i = some b → Wr M w b) ∧ BxR (Wr M w) I' (World.putObj w3 l (.loop L3)) β' ob' b1 ∧
   LR (Wr M w) I' β' (World.putObj w3 l (.loop L3)) o' (.bool (yres e)) (.c (.lit (.bool (yres e)))) ∧ (∀ b, o' = some b → (b < (World.putObj w3 l (.loop L3)).heap.size ∧ Wr M w b) ∧ (∀ i j, ob' i j ≠ some b) ∧ ∀ i, β' i ≠ some b) := by
  intro jump L3 hL3 hyd
  have hst4 := hst3.reBox (o := .loop L3) (l := [.lp (yjump L' e) fl']) (cur := #[.tuple tm3]) (od := fun j => ob3 (.b 0 j)) hnb3 hl3
   ⟨f3, tm3, d3, ⟨by rw [hL3]; exact putObj_same (Array.getElem?_eq_some_iff.1 k3).1, by rw [hyd]; exact kts⟩, rfl⟩ (Nat.le_refl _) (fun j => by
    have := g5 j
    cases j with
    | zero => exact this
    | succ j => simp only [List.getD_cons_succ, List.getD_nil, LR]; exact .un _) (fun j b hb => hb)
  obtain ⟨I', β', ob', hst'⟩ := (SE.weaken (G := G) ⟨_, _, _, hst4⟩ (fun i b hi => hβlt i b hi) hle)
  have hext : ∀ i, i < ([V.lp L fl] :: bs).length → β' i = β i := fun i hi => by
   obtain ⟨blk, _, e1, _⟩ := hB.bx i _ (List.getElem?_eq_getElem hi)
   rw [e1]; exact hst'.ext i blk e1
  refine ⟨I', β', fun i j => if i < b1.length then ob' (.b i j) else none, none, ⟨hst'.below.os, hst'.below.tape, hst'.below.output, hst'.below.size, hst'.below.block, hst'.below.drawn⟩, hst'.ilow, fun b o hbo => ?_, hst'.kept, hext, fun i b hi hb => ?_, ?_, .ofLit rfl, fun b hb => by cases hb⟩
  ·rcases hst'.ihigh b o hbo with h4 | h4
   ·exact .inl h4
   ·exact .inr ⟨h4, hst'.ibnd b o hbo⟩
  ·rcases hst'.bnew i b hb with h4 | h4
   ·have := hβlt i b h4; simp at hi; omega
   ·exact h4
  ·exact {
    bx := fun i cs hcs => by
     have hi : i < b1.length := (List.getElem?_eq_some_iff.1 hcs).1
     obtain ⟨blk, cur, e1, e2, e3, e4, e5, e7⟩ := hst'.bx i hi
     have e : bxs b1 i = cs := by simp [bxs, List.getD, hcs]
     refine ⟨blk, cur, e1, e2, by simp only [hdS, e] at e3; exact e3, by simp only [hdS, e] at e4; exact e4, fun j => ?_, e7⟩
     have := e5 j
     simp only [hdS, e] at this
     rw [if_pos hi]; exact this
    bnone := fun i hi => hst'.bnone i hi
    binj := hst'.binj
    oinj := fun i j i' j' b h h' => by
     split at h <;> try cases h
     split at h' <;> try cases h'
     have := hst'.oinj _ _ b h h'
     simp only [Loc.b.injEq] at this; exact this
    obx := fun i j b k h => by
     split at h <;> try cases h
     exact hst'.obx _ b k h
    obnd := fun i j b h => by
     split at h <;> try cases h
     exact hst'.obnd _ b h
    olen := fun i j hi => by rw [if_neg (by omega)] }
 cases e with
 | normal =>
  obtain ⟨I', β', ob', o', q⟩ := fin none _ rfl rfl
  exact ⟨_, _, run_endRound none k3, _, I', β', ob', o', rfl, q⟩
 | exit i =>
  obtain ⟨I', β', ob', o', q⟩ := fin (some (.exit i)) _ rfl rfl
  exact ⟨_, _, run_endRound (some (.exit i)) k3, _, I', β', ob', o', rfl, q⟩
 | ret =>
  obtain ⟨I', β', ob', o', q⟩ := fin (some .ret) _ rfl rfl
  exact ⟨_, _, run_endRound (some .ret) k3, _, I', β', ob', o', rfl, q⟩
end
end Go.Vl
/- Values without memory: boxes of a caller that are not known, ahead of boxes that are: reading, writing, making, calling; the contract of a function over them. -/
namespace Go.Vl
open Go Go.RowKit
def kx (k j : Nat) : Nat := k + j
section
variable {k : Nat} {Y : List (List V)}
theorem kx_eq {i j : Nat} : (kx k i = kx k j) = (i = j) := by simp [kx]
theorem kx_lt {i j : Nat} : (kx k i < kx k j) = (i < j) := by simp [kx]
theorem kx_succ {i : Nat} : kx k i + 1 = kx k (i + 1) := rfl
theorem bxs_kx (h : Y.length = k) {ls : List (List V)} {j : Nat} : bxs (Y ++ ls) (kx k j) = bxs ls j := by
 subst h; simp only [bxs, kx, List.getD_eq_getElem?_getD]; rw [List.getElem?_append_right (by omega)]; congr 2; omega
theorem bxs_low (h : Y.length = k) {ls : List (List V)} {j : Nat} (hj : j < k) : bxs (Y ++ ls) j = bxs Y j := by
 subst h; simp only [bxs, List.getD_eq_getElem?_getD]; rw [List.getElem?_append_left hj]
theorem up_bxs (h : Y.length = k) {ls l2 : List (List V)} {j : Nat} {c : List V} (h2 : ∀ i, bxs l2 i = if i = j then c else bxs ls i) : up (bxs (Y ++ ls)) (kx k j) c = bxs (Y ++ l2) := by
 funext i
 rw [up_apply]
 by_cases hi : i < k
 ·rw [if_neg (by simp only [kx]; omega), bxs_low h hi, bxs_low h hi]
 ·obtain ⟨d, rfl⟩ : ∃ d, i = kx k d := ⟨i - k, by simp only [kx]; omega⟩
  rw [bxs_kx h, bxs_kx h, h2]
  simp only [kx_eq]
theorem bk0 (h : Y.length = k) {a : List V} {l : List (List V)} : bxs (Y ++ a :: l) (kx k 0) = a := by rw [bxs_kx h]; rfl
theorem bk1 (h : Y.length = k) {a b : List V} {l : List (List V)} : bxs (Y ++ a :: b :: l) (kx k 1) = b := by rw [bxs_kx h]; rfl
theorem bk2 (h : Y.length = k) {a b c : List V} {l : List (List V)} : bxs (Y ++ a :: b :: c :: l) (kx k 2) = c := by rw [bxs_kx h]; rfl
theorem bk3 (h : Y.length = k) {a b c d : List V} {l : List (List V)} : bxs (Y ++ a :: b :: c :: d :: l) (kx k 3) = d := by rw [bxs_kx h]; rfl
theorem bk4 (h : Y.length = k) {a b c d e : List V} {l : List (List V)} : bxs (Y ++ a :: b :: c :: d :: e :: l) (kx k 4) = e := by rw [bxs_kx h]; rfl
theorem bk5 (h : Y.length = k) {a b c d e f : List V} {l : List (List V)} : bxs (Y ++ a :: b :: c :: d :: e :: f :: l) (kx k 5) = f := by rw [bxs_kx h]; rfl
theorem uk0 (h : Y.length = k) {a x : List V} {l : List (List V)} : up (bxs (Y ++ a :: l)) (kx k 0) x = bxs (Y ++ x :: l) := up_bxs h fun i => by
 match i with | 0 => rfl | i + 1 => simp [bxs]
theorem uk1 (h : Y.length = k) {a b x : List V} {l : List (List V)} : up (bxs (Y ++ a :: b :: l)) (kx k 1) x = bxs (Y ++ a :: x :: l) := up_bxs h fun i => by
 match i with | 0 => rfl | 1 => rfl | i + 2 => simp [bxs]
theorem uk2 (h : Y.length = k) {a b c x : List V} {l : List (List V)} : up (bxs (Y ++ a :: b :: c :: l)) (kx k 2) x = bxs (Y ++ a :: b :: x :: l) := up_bxs h fun i => by
 match i with | 0 => rfl | 1 => rfl | 2 => rfl | i + 3 => simp [bxs]
theorem uk3 (h : Y.length = k) {a b c d x : List V} {l : List (List V)} : up (bxs (Y ++ a :: b :: c :: d :: l)) (kx k 3) x = bxs (Y ++ a :: b :: c :: x :: l) := up_bxs h fun i => by
 match i with | 0 => rfl | 1 => rfl | 2 => rfl | 3 => rfl | i + 4 => simp [bxs]
theorem uk4 (h : Y.length = k) {a b c d e x : List V} {l : List (List V)} : up (bxs (Y ++ a :: b :: c :: d :: e :: l)) (kx k 4) x = bxs (Y ++ a :: b :: c :: d :: x :: l) := up_bxs h fun i => by
 match i with | 0 => rfl | 1 => rfl | 2 => rfl | 3 => rfl | 4 => rfl | i + 5 => simp [bxs]
theorem uk5 (h : Y.length = k) {a b c d e f x : List V} {l : List (List V)} : up (bxs (Y ++ a :: b :: c :: d :: e :: f :: l)) (kx k 5) x = bxs (Y ++ a :: b :: c :: d :: e :: x :: l) := up_bxs h fun i => by
 match i with | 0 => rfl | 1 => rfl | 2 => rfl | 3 => rfl | 4 => rfl | 5 => rfl | i + 6 => simp [bxs]
theorem nk0 (h : Y.length = k) {x : List V} : up (bxs Y) (kx k 0) x = bxs (Y ++ [x]) := by
 have := up_bxs (ls := []) (l2 := [x]) (j := 0) (c := x) h fun i => by
  match i with | 0 => rfl | i + 1 => simp [bxs]
 rwa [List.append_nil] at this
theorem nk1 (h : Y.length = k) {a x : List V} : up (bxs (Y ++ [a])) (kx k 1) x = bxs (Y ++ [a, x]) := up_bxs h fun i => by
 match i with | 0 => rfl | 1 => rfl | i + 2 => simp [bxs]
theorem nk2 (h : Y.length = k) {a b x : List V} : up (bxs (Y ++ [a, b])) (kx k 2) x = bxs (Y ++ [a, b, x]) := up_bxs h fun i => by
 match i with | 0 => rfl | 1 => rfl | 2 => rfl | i + 3 => simp [bxs]
theorem nk3 (h : Y.length = k) {a b c x : List V} : up (bxs (Y ++ [a, b, c])) (kx k 3) x = bxs (Y ++ [a, b, c, x]) := up_bxs h fun i => by
 match i with | 0 => rfl | 1 => rfl | 2 => rfl | 3 => rfl | i + 4 => simp [bxs]
theorem nk4 (h : Y.length = k) {a b c d x : List V} : up (bxs (Y ++ [a, b, c, d])) (kx k 4) x = bxs (Y ++ [a, b, c, d, x]) := up_bxs h fun i => by
 match i with | 0 => rfl | 1 => rfl | 2 => rfl | 3 => rfl | 4 => rfl | i + 5 => simp [bxs]
theorem nk5 (h : Y.length = k) {a b c d e x : List V} : up (bxs (Y ++ [a, b, c, d, e])) (kx k 5) x = bxs (Y ++ [a, b, c, d, e, x]) := up_bxs h fun i => by
 match i with | 0 => rfl | 1 => rfl | 2 => rfl | 3 => rfl | 4 => rfl | 5 => rfl | i + 6 => simp [bxs]
theorem bk6 (hY : Y.length = k) {a b c d e f g : List V} {r : List (List V)} : bxs (Y ++ a :: b :: c :: d :: e :: f :: g :: r) (kx k 6) = g := by rw [bxs_kx hY]; rfl
theorem bk7 (hY : Y.length = k) {a b c d e f g h : List V} {r : List (List V)} : bxs (Y ++ a :: b :: c :: d :: e :: f :: g :: h :: r) (kx k 7) = h := by rw [bxs_kx hY]; rfl
theorem bk8 (hY : Y.length = k) {a b c d e f g h i : List V} {r : List (List V)} : bxs (Y ++ a :: b :: c :: d :: e :: f :: g :: h :: i :: r) (kx k 8) = i := by rw [bxs_kx hY]; rfl
theorem uk6 (hY : Y.length = k) {a b c d e f g x : List V} {r : List (List V)} : up (bxs (Y ++ a :: b :: c :: d :: e :: f :: g :: r)) (kx k 6) x = bxs (Y ++ a :: b :: c :: d :: e :: f :: x :: r) := up_bxs hY fun q => by
 match q with | 0 => rfl | 1 => rfl | 2 => rfl | 3 => rfl | 4 => rfl | 5 => rfl | 6 => rfl | q + 7 => simp [bxs]
theorem uk7 (hY : Y.length = k) {a b c d e f g h x : List V} {r : List (List V)} : up (bxs (Y ++ a :: b :: c :: d :: e :: f :: g :: h :: r)) (kx k 7) x = bxs (Y ++ a :: b :: c :: d :: e :: f :: g :: x :: r) := up_bxs hY fun q => by
 match q with | 0 => rfl | 1 => rfl | 2 => rfl | 3 => rfl | 4 => rfl | 5 => rfl | 6 => rfl | 7 => rfl | q + 8 => simp [bxs]
theorem uk8 (hY : Y.length = k) {a b c d e f g h i x : List V} {r : List (List V)} : up (bxs (Y ++ a :: b :: c :: d :: e :: f :: g :: h :: i :: r)) (kx k 8) x = bxs (Y ++ a :: b :: c :: d :: e :: f :: g :: h :: x :: r) := up_bxs hY fun q => by
 match q with | 0 => rfl | 1 => rfl | 2 => rfl | 3 => rfl | 4 => rfl | 5 => rfl | 6 => rfl | 7 => rfl | 8 => rfl | q + 9 => simp [bxs]
theorem nk6 (hY : Y.length = k) {a b c d e f x : List V} : up (bxs (Y ++ [a, b, c, d, e, f])) (kx k 6) x = bxs (Y ++ [a, b, c, d, e, f, x]) := up_bxs hY fun q => by
 match q with | 0 => rfl | 1 => rfl | 2 => rfl | 3 => rfl | 4 => rfl | 5 => rfl | 6 => rfl | q + 7 => simp [bxs]
theorem nk7 (hY : Y.length = k) {a b c d e f g x : List V} : up (bxs (Y ++ [a, b, c, d, e, f, g])) (kx k 7) x = bxs (Y ++ [a, b, c, d, e, f, g, x]) := up_bxs hY fun q => by
 match q with | 0 => rfl | 1 => rfl | 2 => rfl | 3 => rfl | 4 => rfl | 5 => rfl | 6 => rfl | 7 => rfl | q + 8 => simp [bxs]
theorem nk8 (hY : Y.length = k) {a b c d e f g h x : List V} : up (bxs (Y ++ [a, b, c, d, e, f, g, h])) (kx k 8) x = bxs (Y ++ [a, b, c, d, e, f, g, h, x]) := up_bxs hY fun q => by
 match q with | 0 => rfl | 1 => rfl | 2 => rfl | 3 => rfl | 4 => rfl | 5 => rfl | 6 => rfl | 7 => rfl | 8 => rfl | q + 9 => simp [bxs]
end
theorem bk0r {k : Nat} {Y : List (List V)} (h : Y.length = k) {a : List V} {l r : List (List V)} : bxs (Y ++ (a :: l ++ r)) (kx k 0) = a := by rw [bxs_kx h]; rfl
theorem nk_new {k n : Nat} {Y ls : List (List V)} (h : Y.length = k) (hn : ls.length = n) {x : List V} : up (bxs (Y ++ ls)) (kx k n) x = bxs (Y ++ (ls ++ [x])) := up_bxs h fun i => by
 subst hn
 simp only [bxs, List.getD_eq_getElem?_getD]
 by_cases hi : i < ls.length
 ·rw [List.getElem?_append_left hi, if_neg (by omega)]
 ·by_cases h2 : i = ls.length
  ·subst h2; simp
  ·rw [if_neg h2, List.getElem?_eq_none (by simp; omega), List.getElem?_eq_none (by omega)]
theorem bk_new {k n : Nat} {Y ls : List (List V)} (h : Y.length = k) (hn : ls.length = n) {x : List V} : bxs (Y ++ (ls ++ [x])) (kx k n) = x := by
 rw [bxs_kx h]; subst hn; simp [bxs]
theorem uk_new {k n : Nat} {Y ls : List (List V)} (h : Y.length = k) (hn : ls.length = n) {c x : List V} : up (bxs (Y ++ (ls ++ [c]))) (kx k n) x = bxs (Y ++ (ls ++ [x])) := up_bxs h fun i => by
 subst hn
 simp only [bxs, List.getD_eq_getElem?_getD]
 by_cases hi : i < ls.length
 ·rw [List.getElem?_append_left hi, List.getElem?_append_left hi, if_neg (by omega)]
 ·by_cases h2 : i = ls.length
  ·subst h2; simp
  ·rw [if_neg h2, List.getElem?_eq_none (by simp; omega), List.getElem?_eq_none (by simp; omega)]
theorem V.ltP.mono {m n : Nat} {v : V} (h : v.ltP m) (hle : m ≤ n) : v.ltP n := by
 cases v <;> simp_all [V.ltP] <;> omega
theorem V.lt.mono {m n : Nat} {v : V} (h : v.lt m) (hle : m ≤ n) : v.lt n := by
 cases v
 all_goals first
  | trivial
  | (simp only [V.lt] at h ⊢; omega)
  | (simp only [V.lt] at h ⊢; exact fun x hx => (h x hx).mono hle)
  | (simp only [V.lt] at h ⊢; exact ⟨fun x hx => (h.1 x hx).mono hle, fun x hx => (h.2 x hx).mono hle⟩)
  | (simp only [V.lt] at h ⊢; exact h)
theorem renP_same {ρ : Nat → Nat} {m : Nat} {x : V} (h : x.ltP m) (hρ : ∀ i, i < m → ρ i = i) : x.renP ρ = x := by
 cases x <;> simp_all [V.renP, V.ltP]
theorem ren_same {ρ : Nat → Nat} {m : Nat} {x : V} (h : x.lt m) (hρ : ∀ i, i < m → ρ i = i) : x.ren ρ = x := by
 cases x
 all_goals first
  | rfl
  | (simp only [V.lt] at h; simp only [V.ren]; rw [hρ _ h])
  | (simp only [V.lt] at h; simp only [V.ren]; rw [map_same fun x hx => renP_same (h x hx) hρ])
  | (simp only [V.lt] at h; simp only [V.ren]; rw [map_same fun x hx => renP_same (h.1 x hx) hρ, map_same fun x hx => renP_same (h.2 x hx) hρ])
  | (simp only [V.lt] at h; simp only [V.ren]; rw [map_same fun p hp => by rw [renP_same (h p hp) hρ]])
theorem setBx_same {ρ : Nat → Nat} {m : Nat} (hρ : ∀ i, i < m → ρ i = i) : ∀ (b1 : List (List V)) (k : Nat) (f : Nat → List V), k + b1.length ≤ m → (∀ b ∈ b1, ∀ x ∈ b, x.lt m) → setBx ρ k b1 f = setBx (fun i => i) k b1 f
 | [], _, _, _, _ => rfl
 | b :: r, k, f, hk, h => by
  simp only [List.length_cons] at hk
  simp only [setBx]
  rw [hρ k (by omega), setBx_same hρ r (k + 1) _ (by omega) fun b hb => h b (List.mem_cons_of_mem _ hb), ren_map_id, map_same fun x hx => ren_same (h b (List.mem_cons_self ..) x hx) hρ]
theorem bxIn_same {ρ : Nat → Nat} {m nb : Nat} {f : Nat → List V} (hρ : ∀ i, i < m → ρ i = i) : ∀ (b1 : List (List V)) (k : Nat), k + b1.length ≤ m → (∀ b ∈ b1, ∀ x ∈ b, x.lt m) → bxIn f nb (fun i => i) k b1 → bxIn f nb ρ k b1
 | [], _, _, _, _ => trivial
 | b :: r, k, hk, h, h2 => by
  simp only [List.length_cons] at hk
  refine ⟨?_, bxIn_same hρ r (k + 1) (by omega) (fun b hb => h b (List.mem_cons_of_mem _ hb)) h2.2⟩
  rw [hρ k (by omega), map_same fun x hx => ren_same (h b (List.mem_cons_self ..) x hx) hρ]
  have := h2.1
  rw [ren_map_id] at this
  exact this
theorem rho_pre {m nb i : Nat} (h : i < m) : rho (List.range m) nb i = i := by
 simp only [rho, List.length_range, if_pos h, List.getD_eq_getElem?_getD]
 rw [List.getElem?_eq_getElem (by simpa using h)]
 simp
section
variable {P : Program} {G : Gl} {fr : Nat → V} {k n : Nat} {Y Y' ls rest : List (List V)} {f : V} {args all cargs : List V} {K : S → V → Prop} {r : V}
theorem pre_ok {b0 b1 rest : List (List V)} (hb : b1.length = b0.length) : (fun i => if 0 ≤ i ∧ i < 0 + b1.length then b1.getD (i - 0) [] else bxs (b0 ++ rest) i) = bxs (b1 ++ rest) := by
 funext i
 simp only [Nat.zero_le, true_and, Nat.zero_add, Nat.sub_zero, bxs, List.getD_eq_getElem?_getD]
 split
 ·rename_i h; rw [List.getElem?_append_left h]
 ·rename_i h
  rw [List.getElem?_append_right (by omega), List.getElem?_append_right (by omega), hb]
theorem callB_pre {g : FuncId} (hc : calleeV f args = some (g, all)) (hf : FnB P G g cargs (Y ++ ls) r (Y' ++ ls)) (hall : all.map V.fz = cargs) (hY : Y.length = k) (hY' : Y'.length = k) (hlt : ∀ b ∈ Y', ∀ x ∈ b, x.lt k)
  (hn : (ls ++ rest).length = n) (hr : ∀ ρ, r.ren ρ = r) (hK : K ⟨fr, bxs (Y' ++ (ls ++ rest)), kx k n⟩ r) : vcallB P G ⟨fr, bxs (Y ++ (ls ++ rest)), kx k n⟩ f args K := by
 unfold vcallB vcallE
 simp only [hc]
 have hlen : (Y ++ ls).length = k + ls.length := by rw [List.length_append, hY]
 have hlen' : (Y' ++ ls).length = (Y ++ ls).length := by rw [List.length_append, hlen, hY']
 have hρ : ∀ i, i < (Y ++ ls).length → rho (List.range (Y ++ ls).length) (kx k n) i = i := fun i hi => rho_pre hi
 have hlt1 : ∀ b ∈ Y' ++ ls, ∀ x ∈ b, x.lt (Y ++ ls).length := fun b hb x hx => by
  rcases List.mem_append.1 hb with h | h
  ·exact (hlt b h x hx).mono (by omega)
  ·exact hf.2.1.2.1 b (List.mem_append_right _ h) x hx
 refine ⟨List.range (Y ++ ls).length, cargs, Y ++ ls, r, Y' ++ ls, hf, ?_, ⟨by simp, List.nodup_range⟩, ?_, ?_⟩
 ·rw [hall, map_same fun x hx => ren_same (hf.2.1.1 x hx) hρ]
 ·refine bxIn_same hρ _ 0 (by omega) hf.2.1.2.1 (bxIn_id _ _ _ _ fun i b hb => ?_)
  have hi := (List.getElem?_eq_some_iff.1 hb).1
  rw [Nat.zero_add]
  rw [List.length_append] at hn
  refine ⟨by simp only [kx]; omega, ?_⟩
  rw [← List.append_assoc]
  simp only [bxs, List.getD_eq_getElem?_getD]
  rw [List.getElem?_append_left hi, hb]; rfl
 ·rw [setBx_same hρ (Y' ++ ls) 0 _ (by omega) hlt1, setBx_id, hr, ← List.append_assoc, pre_ok hlen', hlen', Nat.sub_self, Nat.add_zero, List.append_assoc]
  exact hK
theorem callY_pre (hf : YB P G cargs Y r Y') (hall : args.map V.fz = cargs) (hk : 0 < k) (hY : Y.length = k) (hY' : Y'.length = k) (hlt : ∀ b ∈ Y', ∀ x ∈ b, x.lt k)
  (hr : ∀ ρ, r.ren ρ = r) (hK : K ⟨fr, bxs (Y' ++ ls), kx k n⟩ r) : vcallY P G ⟨fr, bxs (Y ++ ls), kx k n⟩ (.yl 0) args K := by
 unfold vcallY
 simp only
 have hρ : ∀ i, i < Y.length → rho (List.range Y.length) (kx k n) i = i := fun i hi => rho_pre hi
 have hlen' : Y'.length = Y.length := by rw [hY, hY']
 have hlt1 : ∀ b ∈ Y', ∀ x ∈ b, x.lt Y.length := fun b hb x hx => by rw [hY]; exact hlt b hb x hx
 refine ⟨List.range Y.length, cargs, Y, r, Y', hf, ?_, ⟨by simp, List.nodup_range, ?_⟩, ?_, ?_⟩
 ·rw [hall, map_same fun x hx => ren_same (hf.1.1 x hx) hρ]
 ·rw [hY]
  match k, hk with
  | k + 1, _ => rw [List.range_succ_eq_map]; rfl
 ·refine bxIn_same hρ _ 0 (by omega) hf.1.2.1 (bxIn_id _ _ _ _ fun i b hb => ?_)
  have hi := (List.getElem?_eq_some_iff.1 hb).1
  rw [Nat.zero_add]
  refine ⟨by simp only [kx]; omega, ?_⟩
  simp only [bxs, List.getD_eq_getElem?_getD]
  rw [List.getElem?_append_left hi, hb]; rfl
 ·rw [setBx_same hρ Y' 0 _ (by omega) hlt1, setBx_id, hr, pre_ok hlen', hlen', Nat.sub_self, Nat.add_zero]
  exact hK
end
section
variable {P : Program} {G : Gl} {fr : Nat → V} {k n nb : Nat} {Y Y' ls : List (List V)}
def ltL (m : Nat) (l : List (List V)) : Prop := ∀ b ∈ l, ∀ x ∈ b, x.lt m
theorem le_hdP {l : List (Nat × V)} {bl : List (List V)} {k : Nat} {bx : Nat → List V} (hl : ∀ p ∈ l, p.2.lt bl.length) (hb : ltL bl.length bl) (hk : k ≤ bl.length) (hn : bl.length ≤ nb) (h1 : FL l fr) (h2 : ∀ i, i < bl.length → bxs bl i = bx i) :
  S.Le k (hdS l bl) ⟨fr, bx, nb⟩ := by
 refine ⟨hk, h1.le, hn, fun i hi => by simpa [hdS] using h2 i hi, fun t => frs_lt hl t, fun i hi x hx => ?_⟩
 simp only [hdS] at hi hx
 have : bxs bl i ∈ bl := by
  simp only [bxs, List.getD, List.getElem?_eq_getElem hi, Option.getD_some]; exact List.getElem_mem hi
 exact hb _ this x hx
theorem le_E {l : List (Nat × V)} {rest : List (List V)} (hY : Y.length = k) (hlt : ltL k Y) {m n : Nat} (hm : ls.length = m) (hn : (ls ++ rest).length = n) (hls : ltL (kx k m) ls) (hl : ∀ p ∈ l, p.2.lt (kx k m)) (h1 : FL l fr) {j : Nat} (hj : j ≤ m) :
  S.Le (kx k j) (hdS l (Y ++ ls)) ⟨fr, bxs (Y ++ (ls ++ rest)), kx k n⟩ := by
 have hlen : (Y ++ ls).length = kx k m := by rw [List.length_append, hY, hm]; rfl
 rw [List.length_append] at hn
 refine le_hdP (by rw [hlen]; exact hl) (fun b hb x hx => ?_) (by rw [hlen]; simp only [kx]; omega) (by rw [hlen]; simp only [kx]; omega) h1 fun i hi => ?_
 ·rw [hlen]
  rcases List.mem_append.1 hb with h | h
  ·exact (hlt b h x hx).mono (by simp only [kx]; omega)
  ·exact hls b h x hx
 ·rw [← List.append_assoc]
  simp only [bxs, List.getD_eq_getElem?_getD]
  rw [List.getElem?_append_left hi]
theorem FnB_byE' {ls' : List (List V)} {f : FuncId} {fn : Func} {c : Code} {args : List V} {r : V} (tr : List Nat) (hm : P.follows .mixedOrders = true) (hf : P.funcs[f]? = some fn) (hb : fn.body = some c) (hname : (fn.name == "runtime.NumGoroutine") = false)
  {rs : List ResultVar} (hrs : fn.results.toList = rs) {nt : Nat} (hn : fn.ntmps = nt) (hck : cok nt tr c = true) (hlen : args.length ≤ nt) (hcomp : r.compT = true)
  (hY : Y.length = k) (hY' : Y'.length = k) (hlt : ltL k Y) {m : Nat} (hls : ls.length = m) (hls' : ls'.length = m) (hl : ltL (kx k m) ls) (ha : ∀ x ∈ args, x.lt (kx k m))
  (h : vwpK P G tr (kx k m) c (endB P (kx k m) r (Y' ++ ls') rs) ⟨frm 0 args, bxs (Y ++ ls), kx k m⟩) : FnB P G f args (Y ++ ls) r (Y' ++ ls') := by
 subst hn
 subst hrs
 have hlen0 : (Y ++ ls).length = kx k m := by rw [List.length_append, hY, hls]; rfl
 refine FnB_ofK tr hm hf hb hname hlen hck hcomp ⟨fun x hx => by rw [hlen0]; exact ha x hx, fun b hb x hx => ?_, by rw [List.length_append, List.length_append, hY, hY', hls, hls']; exact Nat.le_refl _⟩ ?_
 ·rw [hlen0]
  rcases List.mem_append.1 hb with h | h
  ·exact (hlt b h x hx).mono (by simp only [kx]; omega)
  ·exact hl b h x hx
 ·rw [frm_eq] at h
  rw [hlen0]; exact h
theorem FnB_byE {f : FuncId} {fn : Func} {c : Code} {args : List V} {r : V} (tr : List Nat) (hm : P.follows .mixedOrders = true) (hf : P.funcs[f]? = some fn) (hb : fn.body = some c) (hname : (fn.name == "runtime.NumGoroutine") = false)
  {rs : List ResultVar} (hrs : fn.results.toList = rs) {nt : Nat} (hn : fn.ntmps = nt) (hck : cok nt tr c = true) (hlen : args.length ≤ nt) (hcomp : r.compT = true)
  (hY : Y.length = k) (hY' : Y'.length = k) (hlt : ltL k Y) {m : Nat} (hls : ls.length = m) (hl : ltL (kx k m) ls) (ha : ∀ x ∈ args, x.lt (kx k m))
  (h : vwpK P G tr (kx k m) c (endB P (kx k m) r (Y' ++ ls) rs) ⟨frm 0 args, bxs (Y ++ ls), kx k m⟩) : FnB P G f args (Y ++ ls) r (Y' ++ ls) :=
 FnB_byE' tr hm hf hb hname hrs hn hck hlen hcomp hY hY' hlt hls hls hl ha h
theorem end_E {r : V} {rs : List ResultVar} {e : VE} (l : List (Nat × V)) {rest : List (List V)} {m n : Nat} (he : isEnd e = true) (hY : Y.length = k) (hlt : ltL k Y) (hm : ls.length = m) (hn : (ls ++ rest).length = n) (hls : ltL (kx k m) ls) (hl : ∀ p ∈ l, p.2.lt (kx k m)) (h1 : FL l fr)
  (hr : retV P false (hdS l (Y ++ ls)) r rs) : endB P (kx k m) r (Y ++ ls) rs e ⟨fr, bxs (Y ++ (ls ++ rest)), kx k n⟩ :=
 ⟨isEnd_ok _ he, l, le_E hY hlt hm hn hls hl h1 (Nat.le_refl _), hr⟩
end
section
variable {P : Program} {G : Gl} {fr : Nat → V} {k n : Nat} {Y Y' ls : List (List V)} {f : V} {args all cargs : List V} {K : S → V → Prop} {r : V}
theorem setBx_app (ρ : Nat → Nat) : ∀ (a b : List (List V)) (i : Nat) (f : Nat → List V), setBx ρ i (a ++ b) f = setBx ρ (i + a.length) b (setBx ρ i a f)
 | [], _, _, _ => rfl
 | x :: a, b, i, f => by
  simp only [List.cons_append, setBx, List.length_cons]
  rw [setBx_app ρ a b (i + 1)]
  congr 1; omega
theorem bxIn_app {ρ : Nat → Nat} {nb : Nat} {bx : Nat → List V} : ∀ (a b : List (List V)) (i : Nat), bxIn bx nb ρ i a → bxIn bx nb ρ (i + a.length) b → bxIn bx nb ρ i (a ++ b)
 | [], _, _, _, h => h
 | x :: a, b, i, h, h2 => ⟨h.1, bxIn_app a b (i + 1) h.2 (by
   have e : i + 1 + a.length = i + (x :: a).length := by simp only [List.length_cons]; omega
   rw [e]; exact h2)⟩
theorem cmap_ren (ρ : Nat → Nat) (l : List C) : (l.map V.c).map (V.ren ρ) = l.map .c := map_same fun x hx => by
 obtain ⟨c, _, rfl⟩ := List.mem_map.1 hx; rfl
def rsel (k : Nat) (js : List Nat) : List Nat := List.range k ++ js.map (kx k)
theorem rsel_len {js : List Nat} : (rsel k js).length = k + js.length := by simp [rsel]
theorem rsel_low {js : List Nat} {nb i : Nat} (h : i < k) : rho (rsel k js) nb i = i := by
 have hl : i < (rsel k js).length := by rw [rsel_len]; omega
 unfold rho
 rw [if_pos hl]
 simp only [List.getD_eq_getElem?_getD, rsel]
 rw [List.getElem?_append_left (by simpa using h), List.getElem?_eq_getElem (by simpa using h)]
 simp
theorem rsel_at {js : List Nat} {nb i j : Nat} (h : js[i]? = some j) : rho (rsel k js) nb (kx k i) = kx k j := by
 have hi := (List.getElem?_eq_some_iff.1 h).1
 have hl : kx k i < (rsel k js).length := by rw [rsel_len]; simp only [kx]; omega
 unfold rho
 rw [if_pos hl]
 simp only [List.getD_eq_getElem?_getD, rsel]
 rw [List.getElem?_append_right (by simp [kx])]
 simp [kx, h]
theorem rsel_nodup {js : List Nat} (h : js.Nodup) : (rsel k js).Nodup := by
 unfold rsel
 rw [List.nodup_append]
 refine ⟨List.nodup_range, ?_, fun a ha b hb => ?_⟩
 ·exact List.Pairwise.map _ (fun a b hab h => hab (by simpa [kx] using h)) h
 ·have := List.mem_range.1 ha
  obtain ⟨j, _, rfl⟩ := List.mem_map.1 hb
  simp only [kx]; omega
theorem sel_low (hY : Y.length = k) (hY' : Y'.length = k) (hlt : ∀ b ∈ Y', ∀ x ∈ b, x.lt k) {js : List Nat} {nb : Nat} : setBx (rho (rsel k js) nb) 0 Y' (bxs (Y ++ ls)) = bxs (Y' ++ ls) := by
 rw [setBx_same (m := k) (fun i hi => rsel_low hi) Y' 0 _ (by omega) hlt, setBx_id, pre_ok (by omega)]
theorem in_low (hY : Y.length = k) (hlt : ∀ b ∈ Y, ∀ x ∈ b, x.lt k) {js : List Nat} (hn : k ≤ n) : bxIn (bxs (Y ++ ls)) n (rho (rsel k js) n) 0 Y := by
 refine bxIn_same (m := k) (fun i hi => rsel_low hi) _ 0 (by omega) hlt (bxIn_id _ _ _ _ fun i b hb => ?_)
 have hi := (List.getElem?_eq_some_iff.1 hb).1
 rw [Nat.zero_add]
 refine ⟨by omega, ?_⟩
 simp only [bxs, List.getD_eq_getElem?_getD]
 rw [List.getElem?_append_left hi, hb]; rfl
theorem callB_two {g : FuncId} {E : List V} {c c' : List C} {j : Nat} (hc : calleeV f args = some (g, all)) (hf : FnB P G g cargs (Y ++ [E, c.map .c]) r (Y' ++ [E, c'.map .c]))
  (hall : ∀ ρ : Nat → Nat, (∀ i, i < k → ρ i = i) → ρ (kx k 0) = kx k 0 → ρ (kx k 1) = kx k j → all.map V.fz = cargs.map (V.ren ρ)) (hY : Y.length = k) (hY' : Y'.length = k) (hlt : ltL k Y) (hlt' : ltL k Y') (hE : ∀ x ∈ E, x.lt k)
  (h0 : bxs ls 0 = E) (hj : bxs ls j = c.map .c) (hj0 : j ≠ 0) (hjn : j < n) (hr : ∀ ρ, r.ren ρ = r) (hK : K ⟨fr, up (bxs (Y' ++ ls)) (kx k j) (c'.map .c), kx k n⟩ r) : vcallB P G ⟨fr, bxs (Y ++ ls), kx k n⟩ f args K := by
 unfold vcallB vcallE
 simp only [hc]
 have e0 : rho (rsel k [0, j]) (kx k n) (kx k 0) = kx k 0 := rsel_at rfl
 have e1 : rho (rsel k [0, j]) (kx k n) (kx k 1) = kx k j := rsel_at rfl
 have hEr : E.map (V.ren (rho (rsel k [0, j]) (kx k n))) = E := map_same fun x hx => ren_same (hE x hx) fun i hi => rsel_low hi
 have k0 : 0 + Y.length = kx k 0 := by simp [hY, kx]
 have k0' : 0 + Y'.length = kx k 0 := by simp [hY', kx]
 refine ⟨rsel k [0, j], cargs, _, r, _, hf, ?_, ⟨by rw [rsel_len]; simp [hY], rsel_nodup (by simp [Ne.symm hj0])⟩, bxIn_app _ _ _ (in_low hY hlt (by simp [kx])) ?_, ?_⟩
 ·exact hall _ (fun i hi => rsel_low hi) e0 e1
 ·rw [k0]
  refine ⟨⟨by rw [e0, kx_lt]; omega, by rw [e0, bxs_kx hY, h0, hEr]⟩, ⟨?_, ?_⟩, trivial⟩
  ·rw [kx_succ, e1, kx_lt]; exact hjn
  ·rw [kx_succ, e1, bxs_kx hY, hj, cmap_ren]
 ·rw [setBx_app, sel_low hY hY' hlt', hr, k0']
  have hlen : kx k n + ((Y' ++ [E, c'.map V.c]).length - (Y ++ [E, c.map V.c]).length) = kx k n := by simp [hY, hY']
  rw [hlen]
  simp only [setBx]
  rw [kx_succ, e0, e1, hEr, cmap_ren]
  have : up (bxs (Y' ++ ls)) (kx k 0) E = bxs (Y' ++ ls) := up_bxs hY' fun i => by
   by_cases hi : i = 0
   ·subst hi; simp [h0]
   ·simp [hi]
  rw [this]; exact hK
theorem callY_one {c c' : List C} {j : Nat} (hf : YB P G cargs (Y ++ [c.map .c]) r (Y' ++ [c'.map .c])) (hall : ∀ ρ : Nat → Nat, (∀ i, i < k → ρ i = i) → ρ (kx k 0) = kx k j → args.map V.fz = cargs.map (V.ren ρ))
  (hk : 0 < k) (hY : Y.length = k) (hY' : Y'.length = k) (hlt : ltL k Y) (hlt' : ltL k Y') (hj : bxs ls j = c.map .c) (hjn : j < n) (hr : ∀ ρ, r.ren ρ = r) (hK : K ⟨fr, up (bxs (Y' ++ ls)) (kx k j) (c'.map .c), kx k n⟩ r) :
  vcallY P G ⟨fr, bxs (Y ++ ls), kx k n⟩ (.yl 0) args K := by
 unfold vcallY
 simp only
 have e0 : rho (rsel k [j]) (kx k n) (kx k 0) = kx k j := rsel_at rfl
 have k0 : 0 + Y.length = kx k 0 := by simp [hY, kx]
 have k0' : 0 + Y'.length = kx k 0 := by simp [hY', kx]
 refine ⟨rsel k [j], cargs, _, r, _, hf, hall _ (fun i hi => rsel_low hi) e0, ⟨by rw [rsel_len]; simp [hY], rsel_nodup (by simp), ?_⟩, bxIn_app _ _ _ (in_low hY hlt (by simp [kx])) ?_, ?_⟩
 ·unfold rsel
  match k, hk with
  | k + 1, _ => rw [List.range_succ_eq_map]; rfl
 ·rw [k0]
  exact ⟨⟨by rw [e0, kx_lt]; exact hjn, by rw [e0, bxs_kx hY, hj, cmap_ren]⟩, trivial⟩
 ·rw [setBx_app, sel_low hY hY' hlt', hr, k0']
  have hlen : kx k n + ((Y' ++ [c'.map V.c]).length - (Y ++ [c.map V.c]).length) = kx k n := by simp [hY, hY']
  rw [hlen]
  simp only [setBx]
  rw [e0, cmap_ren]
  exact hK
end
