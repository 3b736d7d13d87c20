/- Layer 15, plain: what can be deduced. -/
import Derived.Test.YtkbkajabchhbeaaDoorVlP2
set_option linter.unusedSimpArgs false
set_option linter.unusedVariables false
namespace Go.Proofs.YtkbkajabchhbeaaDoor
open Go Go.Vl
mutual
def builtT (p : Tm → Bool) : Tm → Bool
 | .mk k n l => (p (.mk k n l) || decide (k = 1)) || (!decide (k = 2) && builtL p l)
def builtL (p : Tm → Bool) : List Tm → Bool
 | [] => true
 | t :: l => builtT p t && builtL p l
end
theorem builtL_iff {p : Tm → Bool} {l : List Tm} : builtL p l = true ↔ ∀ t ∈ l, builtT p t = true := by
 induction l with
 | nil => simp [builtL]
 | cons t l ih => simp [builtL, ih]
abbrev inP (S : List Tm) (t : Tm) : Bool := decide (t ∈ S)
inductive Kn (S : List Tm) : Bool → Tm → Prop
 | item {t : Tm} : t ∈ S → Kn S false t
 | opn {k n : Int} {a b : Tm} : Kn S false (.mk k n [a, b]) → (k = 3 ∨ k = 4) → Kn S true a → Kn S false b
 | of {t : Tm} : Kn S false t → Kn S true t
 | data {n : Int} {l : List Tm} : Kn S true (.mk 1 n l)
 | make {k n : Int} {l : List Tm} : k ≠ 2 → (∀ t ∈ l, Kn S true t) → Kn S true (.mk k n l)
def ClosedT (S : List Tm) : Prop := ∀ k n a b, Tm.mk k n [a, b] ∈ S → (k = 3 ∨ k = 4) → builtT (inP S) a = true → b ∈ S
theorem built_sound {I S : List Tm} (h : ∀ t ∈ S, Kn I false t) : ∀ t, builtT (inP S) t = true → Kn I true t := by
 refine Tm.ind fun k n l ih => ?_
 intro hb
 simp only [builtT, Bool.or_eq_true, Bool.and_eq_true, decide_eq_true_eq, Bool.not_eq_true', decide_eq_false_iff_not, builtL_iff] at hb
 rcases hb with (hb | hb) | ⟨h2, hb⟩
 ·exact .of (h _ hb)
 ·subst hb; exact .data
 ·exact .make h2 fun t ht => ih t ht (hb t ht)
theorem kn_complete {I S : List Tm} (h0 : ∀ t ∈ I, t ∈ S) (hc : ClosedT S) {b : Bool} {t : Tm} (h : Kn I b t) : if b = true then builtT (inP S) t = true else t ∈ S := by
 induction h with
 | item h => exact h0 _ h
 | opn _ hk _ i1 i2 => exact hc _ _ _ _ i1 hk i2
 | @of t _ i1 =>
  obtain ⟨k, n, l⟩ := t
  simp only [if_true, builtT, Bool.or_eq_true]
  exact .inl (.inl (decide_eq_true i1))
 | data => simp [builtT]
 | make h2 _ ih =>
  simp only [if_true, builtT, Bool.or_eq_true, Bool.and_eq_true]
  exact .inr ⟨by simp [h2], builtL_iff.2 fun t ht => ih t ht⟩
theorem clo_iff {I S : List Tm} (h0 : ∀ t ∈ I, t ∈ S) (hs : ∀ t ∈ S, Kn I false t) (hc : ClosedT S) {t : Tm} : t ∈ S ↔ Kn I false t :=
 ⟨hs t, fun h => kn_complete h0 hc h⟩
theorem built_iff {I S : List Tm} (h0 : ∀ t ∈ I, t ∈ S) (hs : ∀ t ∈ S, Kn I false t) (hc : ClosedT S) {t : Tm} : builtT (inP S) t = true ↔ Kn I true t :=
 ⟨built_sound hs t, fun h => kn_complete h0 hc h⟩
theorem Kn.mono {I J : List Tm} (h : ∀ t ∈ I, t ∈ J) {b : Bool} {t : Tm} (hk : Kn I b t) : Kn J b t := by
 induction hk with
 | item h' => exact .item (h _ h')
 | opn _ hk _ i1 i2 => exact .opn i1 hk i2
 | of _ ih => exact .of ih
 | data => exact .data
 | make h2 _ ih => exact .make h2 ih
theorem Kn.cut {I : List Tm} {t : Tm} (ht : Kn I true t) {b : Bool} {u : Tm} (h : Kn (I ++ [t]) b u) : Kn I true u := by
 induction h with
 | item h =>
  rcases List.mem_append.1 h with h | h
  ·exact .of (.item h)
  ·rw [List.mem_singleton] at h; subst h; exact ht
 | @opn k n a b _ hk _ i1 i2 =>
  cases i1 with
  | of h => exact .of (.opn h hk i2)
  | data => omega
  | make _ h => exact h b (by simp)
 | of _ ih => exact ih
 | data => exact .data
 | make h2 _ ih => exact .make h2 ih
theorem Kn.again {I S : List Tm} (hs : ∀ t ∈ S, Kn I false t) {b : Bool} {t : Tm} (h : Kn S b t) : Kn I b t := by
 induction h with
 | item h => exact hs _ h
 | opn _ hk _ i1 i2 => exact .opn i1 hk i2
 | of _ ih => exact .of ih
 | data => exact .data
 | make h2 _ ih => exact .make h2 ih
mutual
def subsT : Tm → List Tm
 | .mk k n l => .mk k n l :: subsL l
def subsL : List Tm → List Tm
 | [] => []
 | t :: l => subsT t ++ subsL l
end
theorem subsL_mem {l : List Tm} {x : Tm} : x ∈ subsL l ↔ ∃ t ∈ l, x ∈ subsT t := by
 induction l with
 | nil => simp [subsL]
 | cons t l ih => simp [subsL, ih]
theorem subs_self (t : Tm) : t ∈ subsT t := by cases t; simp [subsT]
theorem subs_trans : ∀ (t u x : Tm), u ∈ subsT t → x ∈ subsT u → x ∈ subsT t := by
 refine Tm.ind fun k n l ih => ?_
 intro u x hu hx
 simp only [subsT, List.mem_cons] at hu
 rcases hu with rfl | hu
 ·exact hx
 ·obtain ⟨t, ht, hu⟩ := subsL_mem.1 hu
  simp only [subsT, List.mem_cons]
  exact .inr (subsL_mem.2 ⟨t, ht, ih t ht u x hu hx⟩)
theorem subs_len : ∀ t : Tm, (subsT t).length = sizeT t := by
 refine Tm.ind fun k n l ih => ?_
 simp only [subsT, sizeT, List.length_cons]
 have : (subsL l).length = sizeL l := by
  induction l with
  | nil => rfl
  | cons t l ihl => simp only [subsL, sizeL, List.length_append, ih t (List.mem_cons_self ..), ihl fun t ht => ih t (List.mem_cons_of_mem _ ht)]
 omega
theorem subs_valid : ∀ (t : Tm), validT t = true → ∀ x ∈ subsT t, validT x = true := by
 refine Tm.ind fun k n l ih => ?_
 intro hv x hx
 simp only [subsT, List.mem_cons] at hx
 rcases hx with rfl | hx
 ·exact hv
 ·obtain ⟨t, ht, hx⟩ := subsL_mem.1 hx
  exact ih t ht ((valid_parts hv).2.2.2 t ht) x hx
theorem Kn.loc {I : List Tm} {b : Bool} {t : Tm} (h : Kn I b t) : (b = false → ∃ u ∈ I, t ∈ subsT u) := by
 induction h with
 | @item t h => exact fun _ => ⟨t, h, subs_self t⟩
 | @opn k n a b _ hk _ i1 i2 =>
  intro _
  obtain ⟨u, hu, h⟩ := i1 rfl
  exact ⟨u, hu, subs_trans u _ b h (by simp only [subsT, List.mem_cons, subsL, List.mem_append]; exact .inr (.inr (.inl (subs_self b))))⟩
 | of _ _ => intro h; cases h
 | data => intro h; cases h
 | make _ _ _ => intro h; cases h
theorem Kn.key {I : List Tm} {n : Int} {l : List Tm} (h : Kn I true (.mk 2 n l)) : Kn I false (.mk 2 n l) := by
 cases h with
 | of h => exact h
 | make h _ => exact absurd rfl h
end Go.Proofs.YtkbkajabchhbeaaDoor
/- Layer 15, plain: sorted lists of terms; the specification's Put, Subterms, Close. -/
namespace Go.Proofs.YtkbkajabchhbeaaDoor
open Go Go.Vl
abbrev StT (l : List Tm) : Prop := l.Pairwise fun x y => ltT x y = true
theorem StT.nodup {l : List Tm} (h : StT l) : l.Nodup := h.imp fun h e => by subst e; rw [ltT_irrefl] at h; cases h
def putT (l : List Tm) (t : Tm) : List Tm := if t ∈ l then l else l.takeWhile (fun x => ltT x t) ++ t :: l.dropWhile (fun x => ltT x t)
theorem putT_mem {l : List Tm} {t x : Tm} : x ∈ putT l t ↔ x ∈ l ∨ x = t := by
 unfold putT
 split
 ·rename_i h
  exact ⟨.inl, fun h' => h'.elim id fun e => e ▸ h⟩
 ·rw [List.mem_append, List.mem_cons]
  conv => rhs; rw [← List.takeWhile_append_dropWhile (p := fun x => ltT x t) (l := l), List.mem_append]
  constructor
  ·rintro (h | h | h)
   ·exact .inl (.inl h)
   ·exact .inr h
   ·exact .inl (.inr h)
  ·rintro ((h | h) | h)
   ·exact .inl h
   ·exact .inr (.inr h)
   ·exact .inr (.inl h)
theorem tw_lt {l : List Tm} {t x : Tm} (h : x ∈ l.takeWhile (fun x => ltT x t)) : ltT x t = true := by
 induction l with
 | nil => cases h
 | cons y l ih =>
  rw [List.takeWhile_cons] at h
  split at h
  ·rename_i hy
   rcases List.mem_cons.1 h with rfl | h
   ·exact hy
   ·exact ih h
  ·cases h
theorem nodup_len {α : Type} [DecidableEq α] : ∀ {l m : List α}, l.Nodup → (∀ x ∈ l, x ∈ m) → l.length ≤ m.length
 | [], m, _, _ => Nat.zero_le _
 | x :: l, m, hn, h => by
  rw [List.nodup_cons] at hn
  have hx := h x (List.mem_cons_self ..)
  have := nodup_len (l := l) (m := m.erase x) hn.2 fun y hy => (List.mem_erase_of_ne (show y ≠ x from fun e => by subst e; exact hn.1 hy)).2 (h y (List.mem_cons_of_mem _ hy))
  rw [List.length_erase_of_mem hx] at this
  have := List.length_pos_of_mem hx
  rw [List.length_cons]; omega
theorem nodup_back {α : Type} [DecidableEq α] {l m : List α} (hn : l.Nodup) (h : ∀ x ∈ l, x ∈ m) (hl : m.length ≤ l.length) : ∀ x ∈ m, x ∈ l := fun x hx => by
 by_cases hm : x ∈ l
 ·exact hm
 ·have := nodup_len (l := x :: l) (m := m) (List.nodup_cons.2 ⟨hm, hn⟩) fun y hy => by
   rcases List.mem_cons.1 hy with rfl | hy
   ·exact hx
   ·exact h y hy
  rw [List.length_cons] at this; omega
theorem dw_ge {l : List Tm} (hs : StT l) {t x : Tm} (hn : t ∉ l) (h : x ∈ l.dropWhile (fun x => ltT x t)) : ltT t x = true := by
 induction l with
 | nil => cases h
 | cons y l ih =>
  rw [StT, List.pairwise_cons] at hs
  rw [List.dropWhile_cons] at h
  split at h
  ·exact ih hs.2 (fun h' => hn (List.mem_cons_of_mem _ h')) h
  ·rename_i hy
   have hty : ltT t y = true := by
    cases ht : ltT t y
    ·exact absurd (ltT_tot ht (by simpa using hy)) fun e => hn (by rw [e]; exact List.mem_cons_self ..)
    ·rfl
   rcases List.mem_cons.1 h with rfl | h
   ·exact hty
   ·exact ltT_trans hty (hs.1 x h)
theorem putT_sorted {l : List Tm} (hs : StT l) (t : Tm) : StT (putT l t) := by
 unfold putT
 split
 ·exact hs
 ·rename_i hn
  rw [StT, List.pairwise_append]
  refine ⟨hs.sublist (List.takeWhile_sublist _), List.pairwise_cons.2 ⟨fun x hx => dw_ge hs hn hx, hs.sublist (List.dropWhile_sublist _)⟩, fun x hx y hy => ?_⟩
  have h1 := tw_lt hx
  rcases List.mem_cons.1 hy with rfl | hy
  ·exact h1
  ·exact ltT_trans h1 (dw_ge hs hn hy)
def putAll (l : List Tm) (ts : List Tm) : List Tm := ts.foldl putT l
theorem putAll_mem {ts : List Tm} : ∀ {l : List Tm} {x : Tm}, x ∈ putAll l ts ↔ x ∈ l ∨ x ∈ ts := by
 induction ts with
 | nil => intro l x; simp [putAll]
 | cons t ts ih =>
  intro l x
  show x ∈ putAll (putT l t) ts ↔ _
  rw [ih, putT_mem, List.mem_cons]
  constructor
  ·rintro ((h | h) | h)
   ·exact .inl h
   ·exact .inr (.inl h)
   ·exact .inr (.inr h)
  ·rintro (h | h | h)
   ·exact .inl (.inl h)
   ·exact .inl (.inr h)
   ·exact .inr h
theorem putAll_sorted {ts : List Tm} : ∀ {l : List Tm}, StT l → StT (putAll l ts) := by
 induction ts with
 | nil => intro l h; exact h
 | cons t ts ih => intro l h; exact ih (putT_sorted h t)
theorem strictT_ext : ∀ {l m : List Tm}, StT l → StT m → (∀ x, x ∈ l ↔ x ∈ m) → l = m
 | [], [], _, _, _ => rfl
 | [], y :: m, _, _, h => by have := (h y).2 (List.mem_cons_self ..); cases this
 | x :: l, [], _, _, h => by have := (h x).1 (List.mem_cons_self ..); cases this
 | x :: l, y :: m, hl, hm, h => by
  rw [StT, List.pairwise_cons] at hl hm
  have e : x = y := by
   rcases List.mem_cons.1 ((h x).1 (List.mem_cons_self ..)) with e | hx
   ·exact e
   ·rcases List.mem_cons.1 ((h y).2 (List.mem_cons_self ..)) with e | hy
    ·exact e.symm
    ·have h1 := hm.1 x hx
     have h2 := hl.1 y hy
     rw [ltT_asymm h1] at h2; cases h2
  subst e
  rw [strictT_ext hl.2 hm.2 fun z => ?_]
  constructor
  ·intro hz
   rcases List.mem_cons.1 ((h z).1 (List.mem_cons_of_mem _ hz)) with rfl | hz'
   ·have := hl.1 z hz; rw [ltT_irrefl] at this; cases this
   ·exact hz'
  ·intro hz
   rcases List.mem_cons.1 ((h z).2 (List.mem_cons_of_mem _ hz)) with rfl | hz'
   ·have := hm.1 z hz; rw [ltT_irrefl] at this; cases this
   ·exact hz'
def sortT (l : List Tm) : List Tm := putAll [] l
theorem sortT_mem {l : List Tm} {x : Tm} : x ∈ sortT l ↔ x ∈ l := by unfold sortT; rw [putAll_mem]; simp
theorem sortT_sorted (l : List Tm) : StT (sortT l) := putAll_sorted List.Pairwise.nil
mutual
def rsubsT : Tm → List Tm
 | .mk k n l => rsubsL [.mk k n l] l
def rsubsL (out : List Tm) : List Tm → List Tm
 | [] => out
 | t :: l => rsubsL (putAll out (rsubsT t)) l
end
theorem rsubsL_ok {l : List Tm} (h : ∀ t ∈ l, StT (rsubsT t) ∧ ∀ x, x ∈ rsubsT t ↔ x ∈ subsT t) : ∀ {out : List Tm}, StT out → StT (rsubsL out l) ∧ ∀ x, x ∈ rsubsL out l ↔ x ∈ out ∨ x ∈ subsL l := by
 induction l with
 | nil => intro out ho; simp [rsubsL, subsL, ho]
 | cons t l ih =>
  intro out ho
  have h1 := h t (List.mem_cons_self ..)
  obtain ⟨i1, i2⟩ := ih (fun t ht => h t (List.mem_cons_of_mem _ ht)) (putAll_sorted (ts := rsubsT t) ho)
  simp only [rsubsL]
  refine ⟨i1, fun x => ?_⟩
  rw [i2, putAll_mem, h1.2]
  simp only [subsL, List.mem_append]
  constructor
  ·rintro ((h | h) | h)
   ·exact .inl h
   ·exact .inr (.inl h)
   ·exact .inr (.inr h)
  ·rintro (h | h | h)
   ·exact .inl (.inl h)
   ·exact .inl (.inr h)
   ·exact .inr h
theorem rsubs_ok : ∀ t : Tm, StT (rsubsT t) ∧ ∀ x, x ∈ rsubsT t ↔ x ∈ subsT t := by
 refine Tm.ind fun k n l ih => ?_
 obtain ⟨h1, h2⟩ := rsubsL_ok ih (out := [.mk k n l]) (List.pairwise_singleton _ _)
 simp only [rsubsT]
 refine ⟨h1, fun x => ?_⟩
 rw [h2]; simp [subsT]
theorem rsubs_eq {t : Tm} : rsubsT t = sortT (subsT t) :=
 strictT_ext (rsubs_ok t).1 (sortT_sorted _) fun x => by rw [(rsubs_ok t).2, sortT_mem]
def openT (out next : List Tm) (t : Tm) : List Tm := match t with
 | .mk k _ (a :: b :: _) => if decide (k = 3 ∨ k = 4) = true ∧ builtT (inP out) a = true then putT next b else next
 | _ => next
def roundT (out : List Tm) : List Tm := out.foldl (openT out) out
theorem openT_mem {out next : List Tm} {t x : Tm} : x ∈ openT out next t ↔ x ∈ next ∨ ∃ k n a b r, t = .mk k n (a :: b :: r) ∧ (k = 3 ∨ k = 4) ∧ builtT (inP out) a = true ∧ x = b := by
 unfold openT
 split
 ·rename_i k n a b r
  split
  ·rename_i h
   rw [putT_mem]
   simp only [decide_eq_true_eq] at h
   constructor
   ·rintro (hx | rfl)
    ·exact .inl hx
    ·exact .inr ⟨_, _, _, _, _, rfl, h.1, h.2, rfl⟩
   ·rintro (hx | ⟨k', n', a', b', r', e, hk, hb, rfl⟩)
    ·exact .inl hx
    ·cases e; exact .inr rfl
  ·rename_i h
   constructor
   ·exact .inl
   ·rintro (hx | ⟨k', n', a', b', r', e, hk, hb, rfl⟩)
    ·exact hx
    ·cases e; exact absurd ⟨by simpa using hk, hb⟩ h
 ·rename_i hn
  constructor
  ·exact .inl
  ·rintro (hx | ⟨k', n', a', b', r', e, hk, hb, rfl⟩)
   ·exact hx
   ·exact absurd e (hn _ _ _ _ _)
theorem openT_sorted {out next : List Tm} (h : StT next) (t : Tm) : StT (openT out next t) := by
 unfold openT
 split
 ·split
  ·exact putT_sorted h _
  ·exact h
 ·exact h
theorem openL {out : List Tm} : ∀ (l : List Tm) {next : List Tm}, StT next → StT (l.foldl (openT out) next) ∧ (∀ x, x ∈ l.foldl (openT out) next ↔ x ∈ next ∨ ∃ t ∈ l, ∃ k n a b r, t = .mk k n (a :: b :: r) ∧ (k = 3 ∨ k = 4) ∧ builtT (inP out) a = true ∧ x = b)
 | [], next, h => ⟨h, fun x => by simp⟩
 | t :: l, next, h => by
  obtain ⟨i1, i2⟩ := openL l (openT_sorted (out := out) h t)
  refine ⟨i1, fun x => ?_⟩
  rw [List.foldl_cons, i2, openT_mem]
  constructor
  ·rintro ((h | h) | ⟨u, hu, h⟩)
   ·exact .inl h
   ·exact .inr ⟨t, List.mem_cons_self .., h⟩
   ·exact .inr ⟨u, List.mem_cons_of_mem _ hu, h⟩
  ·rintro (h | ⟨u, hu, h⟩)
   ·exact .inl (.inl h)
   ·rcases List.mem_cons.1 hu with rfl | hu
    ·exact .inl (.inr h)
    ·exact .inr ⟨u, hu, h⟩
theorem round_mem {out : List Tm} (h : StT out) : StT (roundT out) ∧ ∀ x, x ∈ roundT out ↔ x ∈ out ∨ ∃ t ∈ out, ∃ k n a b r, t = .mk k n (a :: b :: r) ∧ (k = 3 ∨ k = 4) ∧ builtT (inP out) a = true ∧ x = b := openL out h
structure CloS (I out : List Tm) : Prop where
 st : StT out
 item : ∀ t ∈ I, t ∈ out
 kn : ∀ t ∈ out, Kn I false t
theorem cloS_start (I : List Tm) : CloS I (sortT I) := ⟨sortT_sorted I, fun t h => sortT_mem.2 h, fun t h => .item (sortT_mem.1 h)⟩
theorem cloS_round {I out : List Tm} (hv : ∀ t ∈ I, validT t = true) (h : CloS I out) : CloS I (roundT out) := by
 obtain ⟨h1, h2⟩ := round_mem h.st
 refine ⟨h1, fun t ht => (h2 t).2 (.inl (h.item t ht)), fun t ht => ?_⟩
 rcases (h2 t).1 ht with ht | ⟨u, hu, k, n, a, b, r, rfl, hk, hb, rfl⟩
 ·exact h.kn t ht
 ·have hku := h.kn _ hu
  obtain ⟨w, hw, hsub⟩ := hku.loc rfl
  have hval := subs_valid w (hv w hw) _ hsub
  have hr : r = [] := by
   have := (valid_parts hval).2.2.1
   rcases hk with rfl | rfl <;> simp [arityI] at this <;> exact List.eq_nil_of_length_eq_zero (by omega)
  subst hr
  exact .opn hku hk (built_sound h.kn a hb)
theorem cloS_end {I out : List Tm} (h : CloS I out) (he : (roundT out).length = out.length) : ClosedT out := by
 obtain ⟨h1, h2⟩ := round_mem h.st
 intro k n a b hm hk hb
 have hsub : ∀ x ∈ out, x ∈ roundT out := fun x hx => (h2 x).2 (.inl hx)
 have hback : ∀ x ∈ roundT out, x ∈ out := nodup_back h.st.nodup hsub (Nat.le_of_eq he)
 exact hback b ((h2 b).2 (.inr ⟨_, hm, k, n, a, b, [], rfl, hk, hb, rfl⟩))
theorem cloS_len {I out : List Tm} (h : CloS I out) : out.length ≤ sizeL I := by
 have hsub : ∀ x ∈ out, x ∈ subsL I := fun x hx => subsL_mem.2 ((h.kn x hx).loc rfl)
 have := nodup_len h.st.nodup hsub
 have e : (subsL I).length = sizeL I := by
  clear hsub this h
  induction I with
  | nil => rfl
  | cons t l ih => simp only [subsL, sizeL, List.length_append, subs_len, ih]
 omega
theorem clo_unique {I l m : List Tm} (hl : CloS I l) (hlc : ClosedT l) (hm : CloS I m) (hmc : ClosedT m) : l = m :=
 strictT_ext hl.st hm.st fun x => by rw [clo_iff hl.item hl.kn hlc, clo_iff hm.item hm.kn hmc]
