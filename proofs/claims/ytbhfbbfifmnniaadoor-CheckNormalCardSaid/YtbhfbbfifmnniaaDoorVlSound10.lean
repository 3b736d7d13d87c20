/- Values without memory: a framework of this repository. Here: the abstract values, and what it means that a value in a world is one of them. -/
import Derived.WalkKit
import Derived.WalkSpells
import Derived.WalkLawsBesides
import Derived.Orders
import Derived.ChangeKeysEq
import Derived.Great.BuildSlice
import Derived.Conc.MuLone
import Derived.MapKept
import Derived.WideKeyRuns
set_option linter.unusedSimpArgs false
set_option linter.unusedVariables false
namespace Go.Vl
open Go Go.RowKit

/-- A value that is its own meaning in every world. -/
def flat : Value → Bool
  | .agg _ | .tuple _ | .func .. | .iface .. => false
  | .pointer (some _) | .slice .. | .map (some _) | .chan (some _) => false
  | _ => true

/-- What one cell holds, for good. -/
inductive C where
  | lit (v : Value)
  | sl (es : List (List C))
  | rp (cs : List C) (k : Nat)
  | fn (f : Fn) (first caps : List C)

instance : Inhabited C := ⟨.sl []⟩

/-- What a slot holds. -/
inductive V where
  | un
  | sk
  | c (x : C)
  | agg (cs : List C)
  | tup (vs : List V)
  | ow (E : Option (TypeId × Nat)) (es : List (List C))
  | bp (i off : Nat)
  | clo (f : Fn) (first caps : List V)
  | ms (i off len cap sz : Nat)
  | mag (vs : List V)
  | mr (i : Nat)
  | mk (bs : List Nat) (cl : Nat)
  | it (i since stepped : Nat) (seen : List Nat)

instance : Inhabited V := ⟨.un⟩

abbrev Ft := Nat → Nat → Prop

inductive CR (I : Ft) (w : World) : Value → C → Prop
  | lit (v : Value) : flat v = true → CR I w v (.lit v)
  | nil (a : Option Addr) (cap : Nat) : (a = none → cap = 0) → CR I w (.slice a 0 cap) (.sl [])
  | sl (b off cap sz : Nat) (es : List (List C)) (f : Nat → Nat → Value) :
      es.length ≤ cap →
      (∀ e ∈ es, e.length = sz) →
      (∀ i j, i < es.length → j < sz → w.cell? ⟨b, off + i * sz + j, none⟩ = some (f i j) ∧ I b (off + i * sz + j)) →
      (∀ i j e c, es[i]? = some e → e[j]? = some c → CR I w (f i j) c) →
      CR I w (.slice (some ⟨b, off, none⟩) es.length cap) (.sl es)
  | rp (b off k : Nat) (cs : List C) (f : Nat → Value) :
      (∀ j, j < cs.length → w.cell? ⟨b, off + j, none⟩ = some (f j) ∧ I b (off + j)) →
      (∀ j c, cs[j]? = some c → CR I w (f j) c) →
      CR I w (.pointer (some ⟨b, off + k, none⟩)) (.rp cs k)
  | fn (f : Fn) (first caps : Array Value) (fs cs : List C) :
      first.size = fs.length → caps.size = cs.length →
      (∀ j c, fs[j]? = some c → CR I w (first.getD j undef) c) →
      (∀ j c, cs[j]? = some c → CR I w (caps.getD j undef) c) →
      CR I w (.func f first caps) (.fn f fs cs)

theorem CR.mono {I I' : Ft} {w w' : World} {v : Value} {c : C} (h : CR I w v c)
    (hI : ∀ b o, I b o → I' b o ∧ w'.cell? ⟨b, o, none⟩ = w.cell? ⟨b, o, none⟩) : CR I' w' v c := by
  induction h with
  | lit v hv => exact .lit v hv
  | nil a cap h => exact .nil a cap h
  | sl b off cap sz es f hc hs hcell _ ih =>
    refine .sl b off cap sz es f hc hs (fun i j hi hj => ?_) (fun i j e c he hc => ih i j e c he hc)
    obtain ⟨h1, h2⟩ := hcell i j hi hj
    obtain ⟨h3, h4⟩ := hI _ _ h2
    exact ⟨h4.trans h1, h3⟩
  | rp b off k cs f hcell _ ih =>
    refine .rp b off k cs f (fun j hj => ?_) (fun j c hc => ih j c hc)
    obtain ⟨h1, h2⟩ := hcell j hj
    obtain ⟨h3, h4⟩ := hI _ _ h2
    exact ⟨h4.trans h1, h3⟩
  | fn f first caps fs cs h1 h2 _ _ ih1 ih2 => exact .fn f first caps fs cs h1 h2 ih1 ih2

/-- A cell's value is no struct and no tuple. -/
theorem CR.oneCell {I : Ft} {w : World} {v : Value} {c : C} (h : CR I w v c) : v.oneCell' = true := by
  cases h with
  | lit v hv => cases v <;> simp_all [flat, Value.oneCell']
  | _ => rfl

theorem CR.notAgg {I : Ft} {w : World} {v : Value} {c : C} (h : CR I w v c) : v.cells = #[v] := by
  cases h with
  | lit v hv => cases v <;> simp_all [flat, Value.cells]
  | _ => rfl

theorem CR.sl_inv {I : Ft} {w : World} {v : Value} {es : List (List C)} (h : CR I w v (.sl es)) : ((∃ (a : Option Addr) (cap : Nat), v = .slice a 0 cap ∧ (a = none → cap = 0)) ∧ es = []) ∨
    ∃ (b off cap sz : Nat) (f : Nat → Nat → Value), v = .slice (some ⟨b, off, none⟩) es.length cap ∧ es.length ≤ cap ∧ (∀ e ∈ es, e.length = sz) ∧
      (∀ i j, i < es.length → j < sz → w.cell? ⟨b, off + i * sz + j, none⟩ = some (f i j) ∧ I b (off + i * sz + j)) ∧
      (∀ i j e c, es[i]? = some e → e[j]? = some c → CR I w (f i j) c) := by
  cases h with
  | nil a cap h => exact .inl ⟨⟨a, cap, rfl, h⟩, rfl⟩
  | sl b off cap sz es f h1 h2 h3 h4 => exact .inr ⟨b, off, cap, sz, f, rfl, h1, h2, h3, h4⟩

theorem CR.lit_inv {I : Ft} {w : World} {v u : Value} (h : CR I w v (.lit u)) : v = u ∧ flat u = true := by
  cases h with
  | lit v hv => exact ⟨rfl, hv⟩

theorem CR.fn_inv {I : Ft} {w : World} {v : Value} {f : Fn} {fs cs : List C} (h : CR I w v (.fn f fs cs)) :
    ∃ vf vc : Array Value, v = .func f vf vc ∧ vf.size = fs.length ∧ vc.size = cs.length ∧ (∀ j c, fs[j]? = some c → CR I w (vf.getD j undef) c) ∧ (∀ j c, cs[j]? = some c → CR I w (vc.getD j undef) c) := by
  cases h with
  | fn f vf vc fs cs h1 h2 h3 h4 => exact ⟨vf, vc, rfl, h1, h2, h3, h4⟩

theorem CR.rp_inv {I : Ft} {w : World} {v : Value} {cs : List C} {k : Nat} (h : CR I w v (.rp cs k)) :
    ∃ (b off : Nat) (f : Nat → Value), v = .pointer (some ⟨b, off + k, none⟩) ∧ (∀ j, j < cs.length → w.cell? ⟨b, off + j, none⟩ = some (f j) ∧ I b (off + j)) ∧
      (∀ j c, cs[j]? = some c → CR I w (f j) c) := by
  cases h with
  | rp b off k cs f h1 h2 => exact ⟨b, off, f, rfl, h1, h2⟩

inductive DR (I : Ft) (w : World) : Value → V → Prop
  | un (v : Value) : DR I w v .un
  | sk : DR I w undef .sk
  | c (v : Value) (x : C) : CR I w v x → DR I w v (.c x)
  | agg (vs : Array Value) (cs : List C) : vs.size = cs.length → (∀ j c, cs[j]? = some c → CR I w (vs.getD j undef) c) → DR I w (.agg vs) (.agg cs)
  | tup (vs : Array Value) (ds : List V) : vs.size = ds.length → (∀ j d, ds[j]? = some d → DR I w (vs.getD j undef) d) → DR I w (.tuple vs) (.tup ds)

theorem DR.mono {I I' : Ft} {w w' : World} {v : Value} {x : V} (h : DR I w v x)
    (hI : ∀ b o, I b o → I' b o ∧ w'.cell? ⟨b, o, none⟩ = w.cell? ⟨b, o, none⟩) : DR I' w' v x := by
  induction h with
  | un v => exact .un v
  | sk => exact .sk
  | c v x h => exact .c v x (h.mono hI)
  | agg vs cs h1 h2 => exact .agg vs cs h1 fun j c hc => (h2 j c hc).mono hI
  | tup vs ds h1 _ ih => exact .tup vs ds h1 ih

/-- The owner of a slice that can be appended to: nobody relies on what lies behind its length; 'ob' is its block, if it has one of its own. -/
def OwnR (base : Nat → Prop) (I : Ft) (w : World) (E : Option (TypeId × Nat)) (es : List (List C)) (ob : Option Nat) (v : Value) : Prop :=
  CR I w v (.sl es) ∧
  ((ob = none ∧ E = none ∧ ∃ a, v = .slice a es.length es.length) ∨
   (∃ e blk cap cur sz, ob = some blk ∧ E = some (e, sz) ∧ v = .slice (some ⟨blk, 0, none⟩) es.length cap ∧ base blk ∧
      w.heap[blk]? = some (.cells cur e (0, 0)) ∧ es.length ≤ cap ∧ cap ≤ maxLen ∧ cur.size = cap * sz ∧ (∀ x ∈ es, x.length = sz) ∧
      (∀ o, I blk o → o < es.length * sz)))

/-- A pointer into a box, or a value that is there for good. -/
def PR (I : Ft) (β : Nat → Option Nat) (w : World) (v : Value) : V → Prop
  | .bp i off => ∃ blk, β i = some blk ∧ v = .pointer (some ⟨blk, off, none⟩)
  | .ms i off len cap _ => len ≤ cap ∧ ∃ blk off' cap', cap ≤ cap' ∧ β i = some blk ∧ (cap' = 0 ∨ off' = off) ∧ v = .slice (some ⟨blk, off', none⟩) len cap'
  | .c x => CR I w v x
  | .ow E es => E = none ∧ CR I w v (.sl es) ∧ ∃ a, v = .slice a es.length es.length
  | .mr i => ∃ blk, β i = some blk ∧ v = .map (some blk)
  | _ => False

def LR (base : Nat → Prop) (I : Ft) (β : Nat → Option Nat) (w : World) (ob : Option Nat) (v : Value) : V → Prop
  | .ow E es => OwnR base I w E es ob v
  | .bp i off => ∃ blk, β i = some blk ∧ v = .pointer (some ⟨blk, off, none⟩)
  | .clo f fs cs => ∃ vf vc : Array Value, v = .func f vf vc ∧ vf.size = fs.length ∧ vc.size = cs.length ∧
      (∀ j x, fs[j]? = some x → PR I β w (vf.getD j undef) x) ∧ (∀ j x, cs[j]? = some x → PR I β w (vc.getD j undef) x)
  | .ms i off len cap _ => len ≤ cap ∧ ∃ blk off' cap', cap ≤ cap' ∧ β i = some blk ∧ (cap' = 0 ∨ off' = off) ∧ v = .slice (some ⟨blk, off', none⟩) len cap'
  | .mag vs => ∃ cells : Array Value, v = .agg cells ∧ cells.size = vs.length ∧ ∀ j x, vs[j]? = some x → PR I β w (cells.getD j undef) x
  | .mr i => ∃ blk, β i = some blk ∧ v = .map (some blk)
  | .mk _ _ => v = undef
  | .it i since stepped seen => ∃ blk m, ob = some blk ∧ base blk ∧ β i = some m ∧ v = .pointer (some ⟨blk, 0, none⟩) ∧ w.heap[blk]? = some (.mapIter (some m) since seen.toArray stepped) ∧ ∀ o, ¬ I blk o
  | x => DR I w v x

theorem PR.mono {I I' : Ft} {β β' : Nat → Option Nat} {w w' : World} {v : Value} {x : V} (h : PR I β w v x)
    (hI : ∀ b o, I b o → I' b o ∧ w'.cell? ⟨b, o, none⟩ = w.cell? ⟨b, o, none⟩) (hβ : ∀ i b, β i = some b → β' i = some b) : PR I' β' w' v x := by
  cases x <;> simp only [PR] at h ⊢
  · exact h.mono hI
  · exact ⟨h.1, h.2.1.mono hI, h.2.2⟩
  · obtain ⟨blk, h1, h2⟩ := h; exact ⟨blk, hβ _ _ h1, h2⟩
  · obtain ⟨h0, blk, o', c', hc, h1, h2⟩ := h; exact ⟨h0, blk, o', c', hc, hβ _ _ h1, h2⟩
  · obtain ⟨blk, h1, h2⟩ := h; exact ⟨blk, hβ _ _ h1, h2⟩

theorem OwnR.mono {base : Nat → Prop} {I I' : Ft} {w w' : World} {E : Option (TypeId × Nat)} {es : List (List C)} {ob : Option Nat} {v : Value} (h : OwnR base I w E es ob v)
    (hI : ∀ b o, I b o → I' b o ∧ w'.cell? ⟨b, o, none⟩ = w.cell? ⟨b, o, none⟩)
    (hob : ∀ b, ob = some b → w'.heap[b]? = w.heap[b]? ∧ ∀ o, I' b o → I b o) : OwnR base I' w' E es ob v := by
  obtain ⟨h1, h2⟩ := h
  refine ⟨h1.mono hI, ?_⟩
  rcases h2 with h2 | ⟨e, blk, cap, cur, sz, hob', hE, hv, hb, hh, hc, hm, hs, hl, hf⟩
  · exact .inl h2
  · obtain ⟨h3, h4⟩ := hob blk hob'
    exact .inr ⟨e, blk, cap, cur, sz, hob', hE, hv, hb, h3.trans hh, hc, hm, hs, hl, fun o ho => hf o (h4 o ho)⟩

theorem LR.mono {base : Nat → Prop} {I I' : Ft} {β β' : Nat → Option Nat} {w w' : World} {ob : Option Nat} {v : Value} {x : V} (h : LR base I β w ob v x)
    (hI : ∀ b o, I b o → I' b o ∧ w'.cell? ⟨b, o, none⟩ = w.cell? ⟨b, o, none⟩) (hβ : ∀ i b, β i = some b → β' i = some b)
    (hob : ∀ b, ob = some b → w'.heap[b]? = w.heap[b]? ∧ ∀ o, I' b o → I b o) : LR base I' β' w' ob v x := by
  cases x <;> simp only [LR] at h ⊢
  case ow => exact h.mono hI hob
  case bp => obtain ⟨blk, h1, h2⟩ := h; exact ⟨blk, hβ _ _ h1, h2⟩
  case ms => obtain ⟨h0, blk, o', c', hc, h1, h2⟩ := h; exact ⟨h0, blk, o', c', hc, hβ _ _ h1, h2⟩
  case mag => obtain ⟨cs, h1, h2, h3⟩ := h; exact ⟨cs, h1, h2, fun j x hx => (h3 j x hx).mono hI hβ⟩
  case clo => obtain ⟨vf, vc, h1, h2, h3, h4, h5⟩ := h; exact ⟨vf, vc, h1, h2, h3, fun j x hx => (h4 j x hx).mono hI hβ, fun j x hx => (h5 j x hx).mono hI hβ⟩
  case mr => obtain ⟨blk, h1, h2⟩ := h; exact ⟨blk, hβ _ _ h1, h2⟩
  case mk => exact h
  case it => obtain ⟨blk, m, h1, h2, h3, h4, h5, h6⟩ := h; exact ⟨blk, m, h1, h2, hβ _ _ h3, h4, (hob blk h1).1.trans h5, fun o ho => h6 o ((hob blk h1).2 o ho)⟩
  all_goals exact h.mono hI

def up {α : Type} (f : Nat → α) (i : Nat) (v : α) : Nat → α := fun j => if j = i then v else f j

@[simp] theorem up_same {α : Type} (f : Nat → α) (i : Nat) (v : α) : up f i v i = v := by simp [up]
theorem up_ne {α : Type} (f : Nat → α) {i j : Nat} (v : α) (h : j ≠ i) : up f i v j = f j := by simp [up, h]
theorem up_apply {α : Type} (f : Nat → α) (i j : Nat) (v : α) : up f i v j = if j = i then v else f j := rfl
theorem up_self {α : Type} (f : Nat → α) (i : Nat) : up f i (f i) = f := by
  funext j; simp only [up]; split <;> simp_all
theorem up_comm {α : Type} (f : Nat → α) {i j : Nat} (v u : α) (h : i ≠ j) : up (up f i v) j u = up (up f j u) i v := by
  funext k; simp only [up]; split <;> split <;> simp_all

/-- A box that is a map: its first cell has the births of the entries and the clock; then come the entries' keys and values. -/
def mkOf (l : List V) : Option (List Nat × Nat) := match l.getD 0 .un with
  | .mk bs cl => some (bs, cl)
  | _ => none
def V.isMk : V → Bool
  | .mk _ _ => true
  | _ => false
def isMb (l : List V) : Bool := (l.getD 0 .un).isMk
theorem mkOf_none {l : List V} (h : isMb l = false) : mkOf l = none := by
  unfold isMb at h; unfold mkOf
  split
  · rename_i e; rw [e] at h; cases h
  · rfl
def entCells : List MapEntry → List Value
  | [] => []
  | e :: r => e.key :: e.val :: entCells r
/-- What lies in a box's block. -/
def HB (w : World) (blk : Nat) (cur : Array Value) (l : List V) : Prop := match mkOf l with
  | some (bs, cl) => ∃ es : Array MapEntry, w.heap[blk]? = some (.map es cl) ∧ es.toList.map (·.born) = bs ∧ cur.toList = undef :: entCells es.toList ∧ l.length = 1 + 2 * bs.length
  | none => ∃ T, w.heap[blk]? = some (.cells cur T (0, 0)) ∧ ∀ u ∈ cur, u.oneCell' = true
theorem HB.lt {w : World} {blk : Nat} {cur : Array Value} {l : List V} (h : HB w blk cur l) : blk < w.heap.size := by
  unfold HB at h
  split at h
  · obtain ⟨es, h, _⟩ := h; exact (Array.getElem?_eq_some_iff.1 h).1
  · obtain ⟨T, h, _⟩ := h; exact (Array.getElem?_eq_some_iff.1 h).1
theorem HB.mono {w w' : World} {blk : Nat} {cur : Array Value} {l : List V} (h : HB w blk cur l) (he : w'.heap[blk]? = w.heap[blk]?) : HB w' blk cur l := by
  unfold HB at h ⊢
  split at h
  · obtain ⟨es, h, h2⟩ := h; exact ⟨es, he.trans h, h2⟩
  · obtain ⟨T, h, h2⟩ := h; exact ⟨T, he.trans h, h2⟩
theorem HB.cells {w : World} {blk : Nat} {cur : Array Value} {l : List V} (h : HB w blk cur l) (hm : isMb l = false) : ∃ T, w.heap[blk]? = some (.cells cur T (0, 0)) ∧ ∀ u ∈ cur, u.oneCell' = true := by
  unfold HB at h; rw [mkOf_none hm] at h; exact h
theorem HB.of {w : World} {blk : Nat} {cur : Array Value} {l : List V} {T : TypeId} (h : w.heap[blk]? = some (.cells cur T (0, 0))) (h2 : ∀ u ∈ cur, u.oneCell' = true) (hm : isMb l = false) : HB w blk cur l := by
  unfold HB; rw [mkOf_none hm]; exact ⟨T, h, h2⟩
theorem HB.congr {w : World} {blk : Nat} {cur : Array Value} {l l' : List V} (h : HB w blk cur l) (h1 : l'.length = l.length) (h2 : mkOf l' = mkOf l) : HB w blk cur l' := by
  unfold HB at h ⊢; rw [h2]
  split at h
  · obtain ⟨es, q1, q2, q3, q4⟩ := h; exact ⟨es, q1, q2, q3, h1.trans q4⟩
  · exact h

/-- The state of an activation: its slots, its boxes. -/
structure S where
  fr : Nat → V
  bx : Nat → List V
  nb : Nat

inductive Loc where
  | t (i : Nat)
  | b (i j : Nat)
  deriving DecidableEq

/-- What a function gets from outside: blocks that it may write, and boxes. -/
structure Mx where
  m : Nat → Prop
  e : Nat → Option Nat

/-- The blocks that may be written: those that came after the start, and some that were there. -/
def Wr (M : Mx) (w0 : World) (b : Nat) : Prop := w0.heap.size ≤ b ∨ M.m b

/-- What was there is as it was, but for some blocks. -/
structure BelowM (M : Mx) (w w' : World) : Prop where
  os : w'.os = w.os
  tape : w'.tape = w.tape
  output : w'.output = w.output
  size : w.heap.size ≤ w'.heap.size
  block : ∀ k, k < w.heap.size → ¬ M.m k → w'.heap[k]? = w.heap[k]?

theorem BelowM.refl (M : Mx) (w : World) : BelowM M w w := ⟨rfl, rfl, rfl, Nat.le_refl _, fun _ _ _ => rfl⟩
theorem BelowM.grown {M : Mx} {a w w' : World} {row : Option Nat} (h : BelowM M a w) (hg : w.grownBy w' row) (hr : ∀ k, row = some k → Wr M a k) : BelowM M a w' :=
  ⟨hg.os.trans h.os, hg.tape.trans h.tape, hg.output.trans h.output, Nat.le_trans h.size hg.size, fun k hk hM =>
    (hg.block k (Nat.lt_of_lt_of_le hk h.size) (fun e => by rcases hr k e.symm with h1 | h1; omega; exact hM h1)).trans (h.block k hk hM)⟩
theorem Wr.new {M : Mx} {a w : World} (h : BelowM M a w) {b : Nat} (hb : w.heap.size ≤ b) : Wr M a b := .inl (Nat.le_trans h.size hb)

structure St (G : Nat → Option (List C)) (n : Nat) (I0 : Ft) (M : Mx) (w0 : World) (I : Ft) (β : Nat → Option Nat) (ob : Loc → Option Nat) (s : S) (a : Act) (w : World) : Prop where
  size : a.tmps.size = n
  defers : a.defers = []
  below : BelowM M w0 w
  ilow : ∀ b o, I0 b o → I b o
  kept : ∀ b o, I0 b o → w.cell? ⟨b, o, none⟩ = w0.cell? ⟨b, o, none⟩
  ihigh : ∀ b o, I b o → I0 b o ∨ Wr M w0 b
  ibnd : ∀ b o, I b o → b < w.heap.size
  fr : ∀ t, LR (Wr M w0) I β w (ob (.t t)) (a.tmps.getD t undef) (s.fr t)
  bx : ∀ i, i < s.nb → ∃ blk cur, β i = some blk ∧ Wr M w0 blk ∧ HB w blk cur (s.bx i) ∧ (s.bx i).length ≤ cur.size ∧
    (∀ j, LR (Wr M w0) I β w (ob (.b i j)) (cur.getD j undef) ((s.bx i).getD j .un)) ∧ (∀ o, ¬ I blk o)
  bnone : ∀ i, s.nb ≤ i → β i = none
  ext : ∀ i b, M.e i = some b → β i = some b
  bnew : ∀ i b, β i = some b → M.e i = some b ∨ w0.heap.size ≤ b
  binj : ∀ i j b, β i = some b → β j = some b → i = j
  oinj : ∀ L L' b, ob L = some b → ob L' = some b → L = L'
  obx : ∀ L b i, ob L = some b → β i ≠ some b
  obnd : ∀ L b, ob L = some b → b < w.heap.size ∧ Wr M w0 b
  glob : ∀ g cs, G g = some cs → CR I w (.pointer (some ⟨g, 0, none⟩)) (.rp cs 0)

end Go.Vl

/- Values without memory: how the relation between an activation's state and its abstract state is carried over a change. -/
namespace Go.Vl
open Go Go.RowKit

def upL (f : Loc → Option Nat) (L : Loc) (v : Option Nat) : Loc → Option Nat := fun L' => if L' = L then v else f L'

def S.put (s : S) (d : Option Nat) (v : V) : S := match d with
  | some d => { s with fr := up s.fr d v }
  | none => s

def S.clr (s : S) (t : Nat) : S := { s with fr := up s.fr t .un }

theorem getD_set_same (a : Array Value) (d : Nat) (v : Value) (h : d < a.size) : (a.setIfInBounds d v).getD d undef = v := by
  simp [h]
theorem getD_set_ne (a : Array Value) (d t : Nat) (v : Value) (h : t ≠ d) : (a.setIfInBounds d v).getD t undef = a.getD t undef := by
  simp [Ne.symm h]

variable {G : Nat → Option (List C)} {n : Nat} {I0 : Ft} {M : Mx} {w0 : World} {I : Ft} {β : Nat → Option Nat} {ob : Loc → Option Nat} {s : S} {a : Act} {w : World}

theorem St.keeps (h : St G n I0 M w0 I β ob s a w) {w' : World} {row : Option Nat} (hg : w.grownBy w' row) (hrow : ∀ r, row = some r → ∀ o, I r o → w'.cell? ⟨r, o, none⟩ = w.cell? ⟨r, o, none⟩) :
    ∀ b o, I b o → w'.cell? ⟨b, o, none⟩ = w.cell? ⟨b, o, none⟩ := by
  intro b o hb
  by_cases hr : row = some b
  · exact hrow b hr o hb
  · exact World.cell?_of_block (hg.block b (h.ibnd b o hb) (fun e => hr e.symm))

theorem St.grow (h : St G n I0 M w0 I β ob s a w) {w' : World} (hg : w.grownBy w' none) {I' : Ft} (h1 : ∀ b o, I b o → I' b o)
    (h2 : ∀ b o, I' b o → I b o ∨ (w.heap.size ≤ b ∧ b < w'.heap.size)) : St G n I0 M w0 I' β ob s a w' := by
  have hk := h.keeps hg (by simp)
  have hI : ∀ b o, I b o → I' b o ∧ w'.cell? ⟨b, o, none⟩ = w.cell? ⟨b, o, none⟩ := fun b o hb => ⟨h1 b o hb, hk b o hb⟩
  have hob : ∀ L b, ob L = some b → w'.heap[b]? = w.heap[b]? ∧ ∀ o, I' b o → I b o := fun L b hL => by
    obtain ⟨h3, h4⟩ := h.obnd L b hL
    refine ⟨hg.block b h3 (by simp), fun o ho => ?_⟩
    rcases h2 b o ho with h5 | h5
    · exact h5
    · omega
  exact {
    size := h.size, defers := h.defers
    below := h.below.grown hg (by simp)
    kept := fun b o h0 => (hk b o (h.ilow b o h0)).trans (h.kept b o h0)
    ilow := fun b o hb => h1 b o (h.ilow b o hb)
    ihigh := fun b o hb => by
      rcases h2 b o hb with h3 | h3
      · exact h.ihigh b o h3
      · exact .inr (Wr.new h.below h3.1)
    ibnd := fun b o hb => by
      rcases h2 b o hb with h3 | h3
      · exact Nat.lt_of_lt_of_le (h.ibnd b o h3) hg.size
      · exact h3.2
    fr := fun t => (h.fr t).mono hI (fun _ _ e => e) (hob (.t t))
    bx := fun i hi => by
      obtain ⟨blk, cur, e1, e2, e3, e4, e5, e7⟩ := h.bx i hi
      have hlt : blk < w.heap.size := e3.lt
      refine ⟨blk, cur, e1, e2, e3.mono (hg.block blk hlt (by simp)), e4, fun j => (e5 j).mono hI (fun _ _ e => e) (hob (.b i j)), fun o ho => ?_⟩
      rcases h2 blk o ho with h3 | h3
      · exact e7 o h3
      · omega
    bnone := h.bnone, ext := h.ext, bnew := h.bnew, binj := h.binj, oinj := h.oinj, obx := h.obx
    obnd := fun L b hL => ⟨Nat.lt_of_lt_of_le (h.obnd L b hL).1 hg.size, (h.obnd L b hL).2⟩
    glob := fun g cs hg' => (h.glob g cs hg').mono hI }

/-- A draw. -/
theorem St.drew (h : St G n I0 M w0 I β ob s a w) : St G n I0 M w0 I β ob s a w.drew :=
  h.grow (w' := w.drew) ⟨rfl, rfl, rfl, Nat.le_refl _, fun _ _ _ => rfl⟩ (fun _ _ h => h) (fun _ _ h => .inl h)

/-- A new block for good. -/
theorem St.alloc (h : St G n I0 M w0 I β ob s a w) (o : Obj) : St G n I0 M w0 (fun b k => I b k ∨ b = w.heap.size) β ob s a (w.alloc o) :=
  h.grow (World.grownBy_alloc w o none) (fun _ _ h => .inl h) (fun b k hb => by
    rcases hb with hb | hb
    · exact .inl hb
    · refine .inr ⟨by omega, by rw [World.size_alloc]; omega⟩)

/-- A new block that nobody relies on yet. -/
theorem St.allocOwn (h : St G n I0 M w0 I β ob s a w) (o : Obj) : St G n I0 M w0 I β ob s a (w.alloc o) :=
  h.grow (World.grownBy_alloc w o none) (fun _ _ h => h) (fun _ _ h => .inl h)

/-- What a slot held is forgotten. -/
theorem St.clr (h : St G n I0 M w0 I β ob s a w) (t : Nat) : St G n I0 M w0 I β (upL ob (.t t) none) (s.clr t) a w := by
  have hsub : ∀ L b, upL ob (.t t) none L = some b → ob L = some b := fun L b hL => by
    simp only [upL] at hL; split at hL
    · cases hL
    · exact hL
  exact {
    size := h.size, defers := h.defers, below := h.below, kept := h.kept, ilow := h.ilow, ihigh := h.ihigh, ibnd := h.ibnd
    fr := fun u => by
      by_cases hu : u = t
      · subst hu; simp only [S.clr, up_same, LR]; exact .un _
      · simp only [S.clr, up_ne _ _ hu]
        have : upL ob (.t t) none (.t u) = ob (.t u) := by simp [upL, hu]
        rw [this]; exact h.fr u
    bx := fun i hi => by
      obtain ⟨blk, cur, e1, e2, e3, e4, e5, e7⟩ := h.bx i hi
      exact ⟨blk, cur, e1, e2, e3, e4, fun j => by
        have : upL ob (.t t) none (.b i j) = ob (.b i j) := by simp [upL]
        rw [this]; exact e5 j, e7⟩
    bnone := h.bnone, ext := h.ext, bnew := h.bnew, binj := h.binj
    oinj := fun L L' b h1 h2 => h.oinj L L' b (hsub _ _ h1) (hsub _ _ h2)
    obx := fun L b i h1 => h.obx L b i (hsub _ _ h1)
    obnd := fun L b h1 => h.obnd L b (hsub _ _ h1)
    glob := h.glob }

/-- A block that a new owner may have. -/
def FreeOb (M : Mx) (w0 w : World) (β : Nat → Option Nat) (ob : Loc → Option Nat) (o : Option Nat) : Prop :=
  ∀ b, o = some b → (b < w.heap.size ∧ Wr M w0 b) ∧ (∀ L, ob L ≠ some b) ∧ (∀ i, β i ≠ some b)

theorem FreeOb.nothing : FreeOb M w0 w β ob none := fun _ h => by cases h

/-- A slot is written. -/
theorem St.put (h : St G n I0 M w0 I β ob s a w) (d : Nat) (hd : d < n) {v : Value} {x : V} {o : Option Nat} (hv : LR (Wr M w0) I β w o v x)
    (hf : FreeOb M w0 w β (upL ob (.t d) none) o) : St G n I0 M w0 I β (upL ob (.t d) o) (s.put (some d) x) (a.put (some d) v) w := by
  have hsub : ∀ L b, upL ob (.t d) o L = some b → (L = .t d ∧ o = some b) ∨ (L ≠ .t d ∧ ob L = some b) := fun L b hL => by
    simp only [upL] at hL; split at hL
    · exact .inl ⟨‹_›, hL⟩
    · exact .inr ⟨‹_›, hL⟩
  have hne : ∀ L b, L ≠ .t d → ob L = some b → o ≠ some b := fun L b hL hb e => by
    have := (hf b e).2.1 L
    simp only [upL, if_neg hL] at this
    exact this hb
  exact {
    size := by simp [Act.put, h.size], defers := h.defers, below := h.below, kept := h.kept, ilow := h.ilow, ihigh := h.ihigh, ibnd := h.ibnd
    fr := fun u => by
      by_cases hu : u = d
      · subst hu
        have e1 : upL ob (.t u) o (.t u) = o := by simp [upL]
        have e2 : (a.put (some u) v).tmps.getD u undef = v := getD_set_same _ _ _ (by rw [h.size]; exact hd)
        rw [e1, e2]; simpa only [S.put, up_same] using hv
      · have e1 : upL ob (.t d) o (.t u) = ob (.t u) := by simp [upL, hu]
        have e2 : (a.put (some d) v).tmps.getD u undef = a.tmps.getD u undef := getD_set_ne _ _ _ _ hu
        rw [e1, e2]; simpa only [S.put, up_ne _ _ hu] using h.fr u
    bx := fun i hi => by
      obtain ⟨blk, cur, e1, e2, e3, e4, e5, e7⟩ := h.bx i hi
      exact ⟨blk, cur, e1, e2, e3, e4, fun j => by
        have : upL ob (.t d) o (.b i j) = ob (.b i j) := by simp [upL]
        rw [this]; exact e5 j, e7⟩
    bnone := h.bnone, ext := h.ext, bnew := h.bnew, binj := h.binj
    oinj := fun L L' b h1 h2 => by
      rcases hsub _ _ h1 with ⟨h1, h1'⟩ | ⟨h1, h1'⟩ <;> rcases hsub _ _ h2 with ⟨h2, h2'⟩ | ⟨h2, h2'⟩
      · rw [h1, h2]
      · exact absurd h1' (hne _ _ h2 h2')
      · exact absurd h2' (hne _ _ h1 h1')
      · exact h.oinj L L' b h1' h2'
    obx := fun L b i h1 => by
      rcases hsub _ _ h1 with ⟨h1, h1'⟩ | ⟨h1, h1'⟩
      · exact (hf b h1').2.2 i
      · exact h.obx L b i h1'
    obnd := fun L b h1 => by
      rcases hsub _ _ h1 with ⟨h1, h1'⟩ | ⟨h1, h1'⟩
      · exact (hf b h1').1
      · exact h.obnd L b h1'
    glob := h.glob }

/-- What a slot holds goes over to another one. -/
theorem FreeOb.moved (h : St G n I0 M w0 I β ob s a w) (t : Nat) (L : Loc) : FreeOb M w0 w β (upL (upL ob (.t t) none) L none) (ob (.t t)) := fun b hb => by
  refine ⟨h.obnd _ b hb, fun L' hL' => ?_, fun i => h.obx _ b i hb⟩
  simp only [upL] at hL'
  split at hL'
  · cases hL'
  · split at hL'
    · cases hL'
    · rename_i h1 h2
      exact h2 (h.oinj _ _ b hL' hb)

end Go.Vl

/- Values without memory: what the operations do to abstract values. -/
namespace Go.Vl
open Go Go.RowKit

inductive K where
  | int (k : IntKind) | bool | str | slice (e : TypeId) | ptr (e : TypeId) | arr (n : Nat) (e : TypeId) | struct | map (k e : TypeId) | other

inductive EK where
  | int | bool | str

structure TI where
  kd : K
  size : Nat
  bytes : Nat
  agg : Bool
  zero : Option (List C)
  flds : List (Nat × Nat × Bool)
  eqs : Option (List EK)

def zc : Value → Option C
  | .slice none 0 0 => some (.sl [])
  | v => if flat v then some (.lit v) else none

def isAggB (P : Program) (t : TypeId) : Bool :=
  match P.underlying t with
  | some (.struct _) | some (.array _ _) => true
  | _ => false

def kdOf : TypeDesc → K
  | .bool => .bool | .int k => .int k | .string => .str | .slice e => .slice e | .array n e => .arr n e | .struct _ => .struct | .pointer e => .ptr e | .map k e => .map k e | _ => .other

def eqFs (P : Program) (r : TypeId → Option (List EK)) : List Field → List EK → Option (List EK)
  | [], acc => some acc
  | f :: fs, acc => match r f.type with
    | some ks => if f.name ≠ "_" ∧ f.offset = acc.length ∧ ks.length = P.cellsOf f.type then eqFs P r fs (acc ++ ks) else none
    | none => none

def eqk (P : Program) : Nat → TypeId → Option (List EK)
  | 0, _ => none
  | d + 1, t => match P.underlying t with
    | some (.int _) => some [.int]
    | some .bool => some [.bool]
    | some .string => some [.str]
    | some (.struct fs) => if P.stoodInHeld t then none else eqFs P (eqk P d) fs.toList []
    | some (.array n e) => match eqk P d e with
      | some ks => if ks.length = P.cellsOf e then some (List.replicate n ks).flatten else none
      | none => none
    | _ => none

def fldsOf (P : Program) : TypeDesc → List (Nat × Nat × Bool)
  | .struct fs => fs.toList.map fun f => (f.offset, P.cellsOf f.type, isAggB P f.type)
  | _ => []

def fldsOk (P : Program) : TypeDesc → Bool
  | .struct fs => fs.toList.all fun f => (P.underlying f.type).isSome
  | _ => true

def ti (P : Program) (t : TypeId) : Option TI :=
  match P.info? t, P.underlying t with
  | some i, some d => if fldsOk P d = false then none else some {
      kd := kdOf d, size := i.size, bytes := i.bytes, agg := isAggB P t
      zero := match i.zero with | some v => v.cells.toList.mapM zc | none => none
      flds := fldsOf P d
      eqs := if P.eqGuardType P.depth t then none else eqk P 8 t }
  | _, _ => none

def V.fz : V → V
  | .ow _ es => .c (.sl es)
  | .it _ _ _ _ => .un
  | v => v

def V.asC : V → Option C
  | .c x => some x
  | .ow _ es => some (.sl es)
  | _ => none

/-- The cells of a value that is there for good. -/
def V.cs : V → Option (List C)
  | .c x => some [x]
  | .ow _ es => some [.sl es]
  | .agg cs => some cs
  | _ => none

def C.isLit : C → Bool
  | .lit _ => true
  | _ => false

def V.isFlat : V → Bool
  | .c (.lit _) => true
  | .un | .sk => true
  | .agg cs => cs.all C.isLit
  | .tup ds => ds.all fun | .c (.lit _) => true | .agg cs => cs.all C.isLit | _ => false
  | _ => false

def constV : Value → V
  | .slice none 0 0 => .ow none []
  | v => if flat v then .c (.lit v) else .un

abbrev Gl := Nat → Option (List C)

def ev (G : Gl) (s : S) : Operand → V
  | .tmp t => s.fr t
  | .const v => constV v
  | .global g => match G g with | some cs => .c (.rp cs 0) | none => .un
  | .func f => .c (.fn (.func f) [] [])

def boxC (s : S) (i : Nat) : Option (List C) := if i < s.nb then (s.bx i).mapM V.asC else none

def chunks (sz : Nat) : Nat → List C → List (List C)
  | 0, _ => []
  | n + 1, cs => cs.take sz :: chunks sz n (cs.drop sz)

/-- What a slice that is a view of a box holds. -/
def viewC (s : S) (i off len sz : Nat) : Option C := match boxC s i with
  | some cs => if off + len * sz ≤ cs.length then some (.sl (chunks sz len (cs.drop off))) else none
  | none => none

def immC (s : S) : V → Option C
  | .c x => some x
  | .ow _ es => some (.sl es)
  | .bp i off => (boxC s i).map fun cs => .rp cs off
  | .ms i off len _ sz => viewC s i off len sz
  | _ => none

/-- What a callee gets to see of a value: a pointer into a box is, for the time of the call, a pointer to what the box holds. -/
def imm (s : S) : V → Option V
  | .c x => some (.c x)
  | .agg cs => some (.agg cs)
  | .ow _ es => some (.c (.sl es))
  | .bp i off => (boxC s i).map fun cs => .c (.rp cs off)
  | .clo f fs cs => match fs.mapM (immC s), cs.mapM (immC s) with
    | some fs', some cs' => some (.c (.fn f fs' cs'))
    | _, _ => none
  | .ms i off len _ sz => (viewC s i off len sz).map .c
  | .mag vs => (vs.mapM (immC s)).map .agg
  | _ => none

def V.isBp : V → Bool
  | .bp _ _ => true
  | .ms _ _ _ _ _ => true
  | .mr _ => true
  | _ => false

def V.isPR : V → Bool
  | .c _ | .bp _ _ | .ms _ _ _ _ _ | .mr _ => true
  | _ => false

/-- What may lie in a cell of a struct that is read. -/
def V.isPO : V → Bool
  | .c _ | .bp _ _ | .ms _ _ _ _ _ | .mr _ | .ow _ _ => true
  | _ => false

/-- Does it lead into a box? -/
def V.boxy : V → Bool
  | .bp _ _ => true
  | .clo _ fs cs => fs.any V.isBp || cs.any V.isBp
  | .ms _ _ _ _ _ => true
  | .mr _ | .it _ _ _ _ => true
  | .mag vs => vs.any V.isBp
  | _ => false

def eqC : EK → C → C → Option Bool
  | .int, .lit (.int k a), .lit (.int k' b) => if k = k' then some (decide (a = b)) else none
  | .bool, .lit (.bool a), .lit (.bool b) => some (a == b)
  | .str, .lit (.string a), .lit (.string b) => some (decide (a = b))
  | _, _, _ => none

def eqCs : List EK → List C → List C → Option Bool
  | [], _, _ => some true
  | k :: ks, c :: cs, d :: ds => match eqC k c d, eqCs ks cs ds with
    | some p, some q => some (p && q)
    | _, _ => none
  | _, _, _ => none

def vint (op : BinOp) (k : IntKind) (a b : Int) (K : V → Prop) : Prop :=
  match op with
  | .add => K (.c (.lit (.int k (k.wrap (a + b)))))
  | .sub => K (.c (.lit (.int k (k.wrap (a - b)))))
  | .mul => K (.c (.lit (.int k (k.wrap (a * b)))))
  | .quo => b ≠ 0 ∧ K (.c (.lit (.int k (k.wrap (a.tdiv b)))))
  | .rem => b ≠ 0 ∧ K (.c (.lit (.int k (a.tmod b))))
  | .and => K (.c (.lit (.int k (bits .and k a b))))
  | .or => K (.c (.lit (.int k (bits .or k a b))))
  | .xor => K (.c (.lit (.int k (bits .xor k a b))))
  | .andNot => K (.c (.lit (.int k (bits .andNot k a b))))
  | .eql => K (.c (.lit (.bool (decide (a = b)))))
  | .neq => K (.c (.lit (.bool (!decide (a = b)))))
  | .lss => K (.c (.lit (.bool (decide (a < b)))))
  | .leq => K (.c (.lit (.bool (decide (a ≤ b)))))
  | .gtr => K (.c (.lit (.bool (decide (b < a)))))
  | .geq => K (.c (.lit (.bool (decide (b ≤ a)))))
  | .shl => 0 ≤ b ∧ K (.c (.lit (.int k (k.wrap (a * 2 ^ (min b.toNat k.bits))))))
  | .shr => 0 ≤ b ∧ K (.c (.lit (.int k (a.fdiv (2 ^ (min b.toNat k.bits))))))

def vstr (op : BinOp) (a b : ByteArray) (K : V → Prop) : Prop :=
  match op with
  | .add => a.size + b.size ≤ 9223372036854775807 ∧ K (.c (.lit (.string (a ++ b))))
  | .eql => K (.c (.lit (.bool (decide (a = b)))))
  | .neq => K (.c (.lit (.bool (!decide (a = b)))))
  | .lss => K (.c (.lit (.bool (Op.bytesLess a.toList b.toList))))
  | .leq => K (.c (.lit (.bool (Op.bytesLess a.toList b.toList || decide (a = b)))))
  | .gtr => K (.c (.lit (.bool (!(Op.bytesLess a.toList b.toList || decide (a = b))))))
  | .geq => K (.c (.lit (.bool (!Op.bytesLess a.toList b.toList))))
  | _ => False

def vbin (P : Program) (op : BinOp) (T : TypeId) (x y : V) (K : V → Prop) : Prop :=
  match x, y with
  | .c (.lit (.int k a)), .c (.lit (.int k' b)) => match op with
    | .shl | .shr => vint op k a b K
    | _ => if k = k' then vint op k a b K else False
  | .c (.lit (.string a)), .c (.lit (.string b)) => vstr op a b K
  | .c (.lit (.bool a)), .c (.lit (.bool b)) => match ti P T with
    | some { kd := .bool, .. } => match op with
      | .eql => K (.c (.lit (.bool (a == b))))
      | .neq => K (.c (.lit (.bool (!(a == b)))))
      | _ => False
    | _ => False
  | .agg xs, .agg ys => match ti P T with
    | some { eqs := some ks, agg := true, .. } => match eqCs ks xs ys with
      | some r => (xs.length = ks.length ∧ ys.length = ks.length) ∧ match op with
        | .eql => K (.c (.lit (.bool r)))
        | .neq => K (.c (.lit (.bool (!r))))
        | _ => False
      | none => False
    | _ => False
  | _, _ => False

def vun (op : UnOp) (x : V) (K : V → Prop) : Prop :=
  match op, x with
  | .neg, .c (.lit (.int k n)) => K (.c (.lit (.int k (k.wrap (0 - n)))))
  | .xor, .c (.lit (.int k n)) => K (.c (.lit (.int k (bits .xor k (if k.signed then -1 else k.max) n))))
  | .not, .c (.lit (.bool b)) => K (.c (.lit (.bool !b)))
  | _, _ => False

/-- A part of the cells of a struct or array. -/
def partV (ag : Bool) (sz off : Nat) (cs : List C) (K : V → Prop) : Prop :=
  if ag then (off + sz ≤ cs.length ∧ K (.agg ((cs.drop off).take sz)))
  else match cs[off]? with
    | some c => K (.c c)
    | none => False

/-- The cells of a value: for good, if they all are. -/
def aggV (vs : List V) : V := match vs.mapM V.asC with
  | some cs => .agg cs
  | none => .mag vs

/-- A part of the cells of a struct or array with parts that lead into boxes. -/
def partM (ag : Bool) (sz off : Nat) (vs : List V) (K : V → Prop) : Prop :=
  if ag then (off + sz ≤ vs.length ∧ K (aggV ((vs.drop off).take sz)))
  else match vs[off]? with
    | some v => K v
    | none => False

def setAt (cs : List C) (off : Nat) (ds : List C) : List C := cs.take off ++ ds ++ cs.drop (off + ds.length)

def fillS (flds : List (Nat × Nat × Bool)) : List (Nat × V) → List C → Option (List C)
  | [], cs => some cs
  | (i, v) :: r, cs => match flds[i]?, v.cs with
    | some (off, sz, _), some ds => if ds.length = sz ∧ off + sz ≤ cs.length then fillS flds r (setAt cs off ds) else none
    | _, _ => none

def fillA (sz : Nat) : List (Nat × V) → List (List C) → Option (List (List C))
  | [], es => some es
  | (i, v) :: r, es => match v.cs with
    | some ds => if ds.length = sz ∧ i < es.length then fillA sz r (es.set i ds) else none
    | none => none

def strC (s : ByteArray) : List (List C) := s.data.toList.map fun b => [.lit (.int .u8 b.toNat)]

def bytesOf : List (List C) → Option (List UInt8)
  | [] => some []
  | [.lit (.int .u8 n)] :: r => (bytesOf r).map fun l => UInt8.ofNat n.toNat :: l
  | _ => none

def vconv (P : Program) (src dst : TypeId) (x : V) (K : V → Prop) : Prop :=
  match ti P src, ti P dst, x with
  | some _, some { kd := .int k, .. }, .c (.lit (.int _ n)) => K (.c (.lit (.int k (k.wrap n))))
  | some _, some { kd := .str, .. }, .c (.lit (.string s)) => K (.c (.lit (.string s)))
  | some { kd := .str, .. }, some { kd := .slice e, .. }, .c (.lit (.string s)) => match ti P e with
    | some { kd := .int .u8, .. } => K (.c (.sl (strC s)))
    | _ => False
  | some { kd := .slice e, .. }, some { kd := .str, .. }, .c (.sl es) => match ti P e with
    | some { kd := .int .u8, .. } => match bytesOf es with
      | some l => K (.c (.lit (.string ⟨l.toArray⟩)))
      | none => False
    | _ => False
  | _, _, _ => False

def optInt (d : Int) : Option V → Option Int
  | none => some d
  | some (.c (.lit (.int _ n))) => some n
  | _ => none

/-- x[lo:hi] -/
def vslice (P : Program) (T : TypeId) (x : V) (lo hi : Option V) (mx : Option V) (K : V → Prop) : Prop :=
  match ti P T, x with
  | some { kd := .str, .. }, .c (.lit (.string s)) => match optInt 0 lo, optInt s.size hi, mx with
    | some l, some h, none => (0 ≤ l ∧ l ≤ h ∧ h ≤ s.size) ∧ K (.c (.lit (.string (s.extract l.toNat h.toNat))))
    | _, _, _ => False
  | some { kd := .slice e, .. }, .c (.sl es) => match mx with
    | none => match ti P e, optInt 0 lo, optInt es.length hi with
      | some i, some l, some h => (0 ≤ l ∧ l ≤ h ∧ h ≤ es.length ∧ ∀ x ∈ es, x.length = i.size) ∧ K (.c (.sl ((es.take h.toNat).drop l.toNat)))
      | _, _, _ => False
    | some (.c (.lit (.int _ m))) => match ti P e, optInt 0 lo, hi with
      | some i, some l, some (.c (.lit (.int _ h))) => (0 ≤ l ∧ l ≤ h ∧ h ≤ es.length ∧ m = h ∧ ∀ x ∈ es, x.length = i.size) ∧ K (.ow none ((es.take h.toNat).drop l.toNat))
      | _, _, _ => False
    | some _ => False
  | some { kd := .slice e, .. }, .ms b off len cap sz => match ti P e, optInt 0 lo, optInt len hi, optInt cap mx with
    | some i, some l, some h, some m => (i.size = sz ∧ 0 ≤ l ∧ l ≤ h ∧ h ≤ m ∧ m ≤ cap ∧ (mx.isSome = true → hi.isSome = true)) ∧ K (.ms b (off + l.toNat * sz) (h.toNat - l.toNat) (m.toNat - l.toNat) sz)
    | _, _, _, _ => False
  | some { kd := .arr n e, .. }, .c (.rp cs k) => match ti P e, lo, hi, mx with
    | some i, none, none, none => (k + n * i.size ≤ cs.length) ∧ K (.c (.sl (chunks i.size n (cs.drop k))))
    | _, _, _, _ => False
  | _, _ => False

def vlen (P : Program) (T : TypeId) (x : V) (K : V → Prop) : Prop :=
  match ti P T, x with
  | some { kd := .str, .. }, .c (.lit (.string s)) => K (.c (.lit (.int .i64 s.size)))
  | some { kd := .slice _, .. }, .c (.sl es) => K (.c (.lit (.int .i64 es.length)))
  | some { kd := .slice _, .. }, .ow _ es => K (.c (.lit (.int .i64 es.length)))
  | some { kd := .slice _, .. }, .ms _ _ len _ _ => K (.c (.lit (.int .i64 len)))
  | some { kd := .arr n _, .. }, _ => K (.c (.lit (.int .i64 n)))
  | _, _ => False

def vindexAddr (P : Program) (T : TypeId) (x i : V) (K : V → Prop) : Prop :=
  match ti P T, x, i with
  | some { kd := .slice e, .. }, .c (.sl es), .c (.lit (.int _ n)) => match ti P e with
    | some j => (0 ≤ n ∧ j.size ≠ 0) ∧ match es[n.toNat]? with
      | some c => c.length = j.size ∧ K (.c (.rp c 0))
      | none => False
    | none => False
  | some { kd := .arr m e, .. }, .c (.rp cs k), .c (.lit (.int _ n)) => match ti P e with
    | some j => (0 ≤ n ∧ n < m) ∧ K (.c (.rp cs (k + n.toNat * j.size)))
    | none => False
  | some { kd := .slice e, .. }, .ms b off len _ sz, .c (.lit (.int _ n)) => match ti P e with
    | some j => (0 ≤ n ∧ n < len ∧ j.size = sz ∧ sz ≠ 0) ∧ K (.bp b (off + n.toNat * sz))
    | none => False
  | some { kd := .arr m e, .. }, .bp b k, .c (.lit (.int _ n)) => match ti P e with
    | some j => (0 ≤ n ∧ n < m) ∧ K (.bp b (k + n.toNat * j.size))
    | none => False
  | _, _, _ => False

def vindex (P : Program) (T : TypeId) (x i : V) (K : V → Prop) : Prop :=
  match ti P T, x, i with
  | some { kd := .str, .. }, .c (.lit (.string s)), .c (.lit (.int _ n)) => 0 ≤ n ∧ match s.data[n.toNat]? with
    | some b => K (.c (.lit (.int .u8 b.toNat)))
    | none => False
  | some { kd := .arr m e, .. }, .agg cs, .c (.lit (.int _ n)) => match ti P e with
    | some j => (0 ≤ n ∧ n < m) ∧ partV j.agg j.size (n.toNat * j.size) cs K
    | none => False
  | _, _, _ => False

def vfieldAddr (P : Program) (T : TypeId) (x : V) (f : Nat) (K : V → Prop) : Prop :=
  match ti P T with
  | some i => match i.flds[f]?, x with
    | some (off, sz, _), .c (.rp cs k) => sz ≠ 0 ∧ K (.c (.rp cs (k + off)))
    | some (off, sz, _), .bp b k => sz ≠ 0 ∧ K (.bp b (k + off))
    | _, _ => False
  | none => False

def vfield (P : Program) (T : TypeId) (x : V) (f : Nat) (K : V → Prop) : Prop :=
  match ti P T, x with
  | some i, .agg cs => match i.flds[f]? with
    | some (off, sz, ag) => partV ag sz off cs K
    | none => False
  | some i, .mag vs => match i.flds[f]? with
    | some (off, sz, ag) => partM ag sz off vs K
    | none => False
  | _, _ => False

def vload (P : Program) (T : TypeId) (s : S) (x : V) (K : V → Prop) : Prop :=
  match ti P T, x with
  | some i, .c (.rp cs k) => partV i.agg i.size k cs K
  | some i, .bp b k => (b < s.nb ∧ isMb (s.bx b) = false) ∧ if i.agg then (((((s.bx b).drop k).take i.size).length = i.size ∧ (((s.bx b).drop k).take i.size).all V.isPO = true) ∧ K (aggV ((((s.bx b).drop k).take i.size).map V.fz)))
    else match (s.bx b)[k]? with
      | some v => K v.fz
      | none => False
  | _, _ => False

/-- The cells of a value, some of which may lead into boxes. -/
def V.ps : V → Option (List V)
  | .c x => some [.c x]
  | .ow _ es => some [.c (.sl es)]
  | .agg cs => some (cs.map .c)
  | .bp i off => some [.bp i off]
  | .ms i off len cap sz => some [.ms i off len cap sz]
  | .mr i => some [.mr i]
  | .mag vs => some vs
  | _ => none

def setP (vs : List V) (off : Nat) (ds : List V) : List V := vs.take off ++ ds ++ vs.drop (off + ds.length)

def fillM (flds : List (Nat × Nat × Bool)) : List (Nat × V) → List V → Option (List V)
  | [], cs => some cs
  | (i, v) :: r, cs => match flds[i]?, v.ps with
    | some (off, sz, _), some ds => if ds.length = sz ∧ off + sz ≤ cs.length then fillM flds r (setP cs off ds) else none
    | _, _ => none

def vbuild (P : Program) (T : TypeId) (parts : List (Nat × V)) (K : V → Prop) : Prop :=
  match ti P T with
  | some { kd := .struct, zero := some z, flds := flds, .. } => match fillS flds parts z with
    | some cs => K (.agg cs)
    | none => match fillM flds parts (z.map .c) with
      | some vs => K (.mag vs)
      | none => False
  | some { kd := .arr n e, zero := some z, .. } => match ti P e with
    | some j => match fillS ((List.range n).map fun i => (i * j.size, j.size, j.agg)) parts z with
      | some cs => K (.agg cs)
      | none => False
    | none => False
  | _ => False

def vbuildSlice (P : Program) (T : TypeId) (len : Nat) (parts : List (Nat × V)) (K : V → Prop) : Prop :=
  match ti P T with
  | some { kd := .slice e, .. } => match ti P e with
    | some { size := sz, zero := some z, .. } => (0 < sz ∧ z.length = sz ∧ len * sz ≤ 16777216) ∧ match fillA sz parts (List.replicate len z) with
      | some es => K (.ow (if len = 0 then none else some (e, sz)) es)
      | none => False
    | _ => False
  | _ => False

def GOK (G : Gl) (I : Ft) (w : World) : Prop := ∀ g cs, G g = some cs → CR I w (.pointer (some ⟨g, 0, none⟩)) (.rp cs 0)

def RetR (base : Nat → Prop) (I : Ft) (w : World) (v : Value) (r : V) : Prop :=
  ∃ ob, LR base I (fun _ => none) w ob v r ∧ ∀ b, ob = some b → base b ∧ b < w.heap.size

/-- The contract of a function on values that are there for good. -/
def FnOK (P : Program) (G : Gl) (f : FuncId) (args : List V) (r : V) : Prop :=
  (∃ fn, P.funcs[f]? = some fn ∧ (fn.name == "runtime.NumGoroutine") = false ∧ ∃ c, fn.body = some c) ∧
  ∀ (I : Ft) (w : World) (vs : Array Value), (∀ b o, I b o → b < w.heap.size) → GOK G I w → vs.size = args.length → (∀ j x, args[j]? = some x → DR I w (vs.getD j undef) x) →
    Calls P f vs w fun e w' => ∃ v I', e = .returned v ∧ w.grownBy w' none ∧ (∀ b o, I b o → I' b o) ∧
      (∀ b o, I' b o → I b o ∨ (w.heap.size ≤ b ∧ b < w'.heap.size)) ∧ RetR (fun b => w.heap.size ≤ b) I' w' v r

/-! Functions that get to see boxes. -/
def V.renP (ρ : Nat → Nat) : V → V
  | .bp i o => .bp (ρ i) o
  | .ms i o l k z => .ms (ρ i) o l k z
  | .mr i => .mr (ρ i)
  | x => x

/-- The same value, the boxes under other numbers. -/
def V.ren (ρ : Nat → Nat) : V → V
  | .bp i o => .bp (ρ i) o
  | .ms i o l k z => .ms (ρ i) o l k z
  | .mr i => .mr (ρ i)
  | .it i p q l => .it (ρ i) p q l
  | .clo f fs cs => .clo f (fs.map (V.renP ρ)) (cs.map (V.renP ρ))
  | .mag vs => .mag (vs.map (V.renP ρ))
  | x => x

def V.ltP (m : Nat) : V → Prop
  | .bp i _ => i < m
  | .ms i _ _ _ _ => i < m
  | .mr i => i < m
  | _ => True

/-- References to boxes below a number only. -/
def V.lt (m : Nat) : V → Prop
  | .bp i _ => i < m
  | .clo _ fs cs => (∀ x ∈ fs, x.ltP m) ∧ ∀ x ∈ cs, x.ltP m
  | .ms i _ _ _ _ => i < m
  | .mr i => i < m
  | .it i _ _ _ => i < m
  | .mag vs => ∀ x ∈ vs, x.ltP m
  | _ => True

/-- Boxes in a world. -/
structure BxR (W : Nat → Prop) (I : Ft) (w : World) (β : Nat → Option Nat) (ob : Nat → Nat → Option Nat) (bl : List (List V)) : Prop where
  bx : ∀ i cs, bl[i]? = some cs → ∃ blk cur, β i = some blk ∧ W blk ∧ HB w blk cur cs ∧ cs.length ≤ cur.size ∧
    (∀ j, LR W I β w (ob i j) (cur.getD j undef) (cs.getD j .un)) ∧ (∀ o, ¬ I blk o)
  bnone : ∀ i, bl.length ≤ i → β i = none
  binj : ∀ i j b, β i = some b → β j = some b → i = j
  oinj : ∀ i j i' j' b, ob i j = some b → ob i' j' = some b → i = i' ∧ j = j'
  obx : ∀ i j b k, ob i j = some b → β k ≠ some b
  obnd : ∀ i j b, ob i j = some b → b < w.heap.size ∧ W b
  olen : ∀ i j, bl.length ≤ i → ob i j = none

/-- The contract of a function that gets to see boxes, and may change them. -/
def FnB (P : Program) (G : Gl) (f : FuncId) (args : List V) (b0 : List (List V)) (r : V) (b1 : List (List V)) : Prop :=
  (∃ fn, P.funcs[f]? = some fn ∧ (fn.name == "runtime.NumGoroutine") = false ∧ ∃ c, fn.body = some c) ∧
  ((∀ x ∈ args, x.lt b0.length) ∧ (∀ b ∈ b0, ∀ x ∈ b, x.lt b0.length) ∧ b0.length ≤ b1.length) ∧
  ∀ (I : Ft) (M : Mx) (w : World) (vs : Array Value) (β : Nat → Option Nat) (ob : Nat → Nat → Option Nat), (∀ b o, I b o → b < w.heap.size) → GOK G I w → BxR (Wr M w) I w β ob b0 → vs.size = args.length →
    (∀ j x, args[j]? = some x → LR (Wr M w) I β w none (vs.getD j undef) x) →
    Calls P f vs w fun e w' => ∃ v I' β' ob' o', e = .returned v ∧ BelowM M w w' ∧ (∀ b o, I b o → I' b o) ∧ (∀ b o, I' b o → I b o ∨ (Wr M w b ∧ b < w'.heap.size)) ∧
      (∀ b o, I b o → w'.cell? ⟨b, o, none⟩ = w.cell? ⟨b, o, none⟩) ∧ (∀ i, i < b0.length → β' i = β i) ∧ (∀ i b, b0.length ≤ i → β' i = some b → w.heap.size ≤ b) ∧ BxR (Wr M w) I' w' β' ob' b1 ∧
      LR (Wr M w) I' β' w' o' v r ∧ (∀ b, o' = some b → (b < w'.heap.size ∧ Wr M w b) ∧ (∀ i j, ob' i j ≠ some b) ∧ ∀ i, β' i ≠ some b)

def calleeV (f : V) (args : List V) : Option (FuncId × List V) := match f with
  | .c (.fn (.func g) fs cs) => some (g, fs.map .c ++ args ++ cs.map .c)
  | .clo (.func g) fs cs => some (g, fs ++ args ++ cs)
  | _ => none

/-- The numbers that the callee's boxes have with the caller. -/
def rho (ρ : List Nat) (nb i : Nat) : Nat := if i < ρ.length then ρ.getD i 0 else nb + (i - ρ.length)

def bxIn (bx : Nat → List V) (nb : Nat) (ρ : Nat → Nat) : Nat → List (List V) → Prop
  | _, [] => True
  | i, b :: r => (ρ i < nb ∧ bx (ρ i) = b.map (V.ren ρ)) ∧ bxIn bx nb ρ (i + 1) r

def setBx (ρ : Nat → Nat) : Nat → List (List V) → (Nat → List V) → Nat → List V
  | _, [], f => f
  | i, b :: r, f => setBx ρ (i + 1) r (up f (ρ i) (b.map (V.ren ρ)))

def vcallE (P : Program) (G : Gl) (bx : Nat → List V) (nb : Nat) (f : V) (args : List V) (K : (Nat → List V) → Nat → V → Prop) : Prop := match calleeV f args with
  | some (g, all) => ∃ (ρ : List Nat) (cargs : List V) (b0 : List (List V)) (r : V) (b1 : List (List V)), FnB P G g cargs b0 r b1 ∧ all.map V.fz = cargs.map (V.ren (rho ρ nb)) ∧
      (ρ.length = b0.length ∧ ρ.Nodup) ∧ bxIn bx nb (rho ρ nb) 0 b0 ∧ K (setBx (rho ρ nb) 0 b1 bx) (nb + (b1.length - b0.length)) (r.ren (rho ρ nb))
  | none => False

def vcallB (P : Program) (G : Gl) (s : S) (f : V) (args : List V) (K : S → V → Prop) : Prop := vcallE P G s.bx s.nb f args fun bx nb x => K { s with bx := bx, nb := nb } x

def vcall (P : Program) (G : Gl) (s : S) (callee : V) (args : List V) (K : V → Prop) : Prop :=
  match callee with
  | .c (.fn (.func g) fs cs) => match args.mapM (imm s) with
    | some as => ∃ r, FnOK P G g (fs.map .c ++ as ++ cs.map .c) r ∧ (args.any V.boxy = true → r.isFlat = true) ∧ K r
    | none => False
  | .clo (.func g) fs cs => match fs.mapM (imm s), args.mapM (imm s), cs.mapM (imm s) with
    | some fs', some as, some cs' => ∃ r, FnOK P G g (fs' ++ as ++ cs') r ∧ ((fs ++ args ++ cs).any V.boxy = true → r.isFlat = true) ∧ K r
    | _, _, _ => False
  | _ => False

def vappend (P : Program) (sT : TypeId) (x y : V) (K : V → Prop) : Prop :=
  match ti P sT, x with
  | some { kd := .slice e, .. }, .ow E es => match ti P e with
    | some { size := sz, bytes := by_, zero := some z, .. } =>
      (0 < sz ∧ z.length = sz ∧ (E = none ∨ E = some (e, sz)) ∧ ∀ x ∈ es, x.length = sz) ∧ match y with
      | .c (.sl ys) => ((es.length + ys.length) * by_ ≤ 140737488355328 ∧ es.length + ys.length ≤ 9223372036854775807 ∧ ∀ x ∈ ys, x.length = sz) ∧ K (.ow (if ys.isEmpty then E else some (e, sz)) (es ++ ys))
      | _ => False
    | _ => False
  | _, _ => False

def vmin (mx : Bool) : List V → (V → Prop) → Prop
  | [.c (.lit (.int k a)), .c (.lit (.int _ b))], K => K (.c (.lit (.int k (if mx then (if a < b then b else a) else (if b < a then b else a)))))
  | _, _ => False

def vbuiltin (P : Program) (b : Builtin) (argTypes : List TypeId) (args : List V) (K : V → Prop) : Prop :=
  match b, argTypes, args with
  | .len, [t], [x] => vlen P t x K
  | .append, [t, u], [x, y] => if t = u then vappend P t x y.fz K else False
  | .min, _, args => vmin false args K
  | .max, _, args => vmin true args K
  | _, _, _ => False

def inTr (tr : List Nat) : Option Tmp → Bool
  | some d => tr.contains d
  | none => false

/-- A value, looked at: a slice that is a view of a box is what it holds. -/
def vw (s : S) : V → V
  | .ms i off len _ sz => match viewC s i off len sz with
    | some c => .c c
    | none => .un
  | x => x

/-! Maps: boxes whose first cell has the births of the entries. -/
def V.kcs (ag : Bool) : V → Option (List C)
  | .c x => if ag then none else some [x]
  | .agg cs => if ag then some cs else none
  | _ => none
def keysOf (ag : Bool) : List V → Option (List (List C))
  | [] => some []
  | k :: _ :: r => match k.kcs ag, keysOf ag r with
    | some q, some l => some (q :: l)
    | _, _ => none
  | _ => none

/-- Which of some keys is this one? -/
def findK (ks : List EK) (k : List C) : List (List C) → Nat → Option (Option Nat)
  | [], _ => some none
  | k' :: r, i => if k'.length = ks.length then match eqCs ks k k' with
      | some true => some (some i)
      | some false => findK ks k r (i + 1)
      | none => none
    else none

def zeroOf (e : TI) : Option V := match e.agg, e.zero with
  | true, some z => some (.agg z)
  | false, some [c] => some (.c c)
  | _, _ => none

/-- Is a type's zero value an aggregate exactly if the type is one? -/
def zaB (P : Program) (t : TypeId) : Bool := match P.info? t with
  | some i => match i.zero with
    | some (.agg _) => isAggB P t
    | some _ => !isAggB P t
    | none => false
  | none => false

/-- What a tuple may hold. -/
def V.dr : V → V
  | .c x => .c x
  | .agg cs => .agg cs
  | .ow _ es => .c (.sl es)
  | _ => .un

/-- A map, and where a key is in it. -/
def vmapAt (P : Program) (T : TypeId) (s : S) (x k : V) (K : Nat → List Nat → Nat → List V → Option Nat → V → Prop) : Prop := match ti P T, x with
  | some { kd := .map kt et, .. }, .mr i => match ti P kt, ti P et with
    | some { eqs := some ks, agg := ag, .. }, some e => match k.kcs ag, zeroOf e, s.bx i with
      | some kc, some z, .mk bs cl :: r => match keysOf ag r with
        | some kcs => match findK ks kc kcs 0 with
          | some res => (i < s.nb ∧ kc.length = ks.length ∧ eqCs ks kc kc = some true ∧ zaB P et = true) ∧ K i bs cl r res z
          | none => False
        | none => False
      | _, _, _ => False
    | _, _ => False
  | _, _ => False

def vlookup (P : Program) (T : TypeId) (s : S) (x k : V) (ok : Bool) (K : V → Prop) : Prop :=
  vmapAt P T s x k fun _ _ _ r res z => match res with
    | some j => if ok then K (.tup [(r.getD (2 * j + 1) .un).dr, .c (.lit (.bool true))]) else K (r.getD (2 * j + 1) .un).fz
    | none => if ok then K (.tup [z.dr, .c (.lit (.bool false))]) else K z

def vmapSet (P : Program) (T : TypeId) (s : S) (x k v : V) (K : S → Prop) : Prop :=
  vmapAt P T s x k fun i bs cl r res _ => match res with
    | some j => K { s with bx := up s.bx i (.mk bs cl :: r.set (2 * j + 1) v.fz) }
    | none => K { s with bx := up s.bx i (.mk (bs ++ [cl]) (cl + 1) :: (r ++ [k.fz, v.fz])) }

def vmapEntry (P : Program) (T : TypeId) (s : S) (x k : V) (K : S → V → Prop) : Prop :=
  vmapAt P T s x k fun i bs cl r res z => match res with
    | some j => K s (.tup [(r.getD (2 * j + 1) .un).dr, .c (.lit (.int .i64 (bs.getD j 0)))])
    | none => K { s with bx := up s.bx i (.mk (bs ++ [cl]) (cl + 1) :: (r ++ [k.fz, z])) } (.tup [z.dr, .c (.lit (.int .i64 cl))])

def ventrySet (s : S) (x n v : V) (K : S → Prop) : Prop := match x, n with
  | .mr i, .c (.lit (.int _ m)) => match s.bx i with
    | .mk bs cl :: r => match bs.findIdx? (fun (b : Nat) => (b : Int) == m) with
      | some j => i < s.nb ∧ K { s with bx := up s.bx i (.mk bs cl :: r.set (2 * j + 1) v.fz) }
      | none => False
    | _ => False
  | _, _ => False

def vrange (P : Program) (T : TypeId) (s : S) (x : V) (K : V → Prop) : Prop := match ti P T, x with
  | some { kd := .map _ _, .. }, .mr i => match s.bx i with
    | .mk _ cl :: _ => i < s.nb ∧ K (.it i cl cl [])
    | _ => False
  | _, _ => False

/-- The next entry: any that has not been seen; the end, if none is left. Nothing may have been added since the start. -/
def vnext (s : S) (x : V) (K : Option V → V → Prop) : Prop := match x with
  | .it i since stepped seen => match s.bx i with
    | .mk bs cl :: r => (i < s.nb ∧ since ≤ stepped ∧ ∀ b ∈ bs, b < since) ∧
      ((∀ b ∈ bs, b ∈ seen) → K none (.tup [.c (.lit (.bool false))])) ∧
      ∀ j b, bs[j]? = some b → b ∉ seen → K (some (.it i since cl (seen ++ [b]))) (.tup [.c (.lit (.bool true)), (r.getD (2 * j) .un).dr, (r.getD (2 * j + 1) .un).dr])
    | _ => False
  | _ => False

def ventry (s : S) (x : V) (K : V → Prop) : Prop := match x with
  | .it i _ stepped seen => match s.bx i, seen.getLast? with
    | .mk bs cl :: r, some b => match bs.findIdx? (· == b) with
      | some j => (i < s.nb ∧ cl = stepped) ∧ K (.tup [(r.getD (2 * j) .un).dr, (r.getD (2 * j + 1) .un).dr])
      | none => False
    | _, _ => False
  | _ => False

/-- The operations that only read slots and boxes: what they yield. -/
def VYK (P : Program) (G : Gl) (tr : List Nat) (o : Oper) (s : S) (K : V → Prop) : Prop :=
  match o.op with
  | .move x => if inTr tr o.dst then K (ev G s x) else K (ev G s x).fz
  | .assign x => K (ev G s x)
  | .pick c a b => match ev G s c with
    | .c (.lit (.bool p)) => K (if p then (ev G s a).fz else (ev G s b).fz)
    | _ => False
  | .binOp op T x y _ => vbin P op T (ev G s x) (ev G s y) K
  | .unOp op _ x => vun op (ev G s x) K
  | .load T x => vload P T s (ev G s x) K
  | .fieldAddr T x f => vfieldAddr P T (ev G s x) f K
  | .field T x f => vfield P T (ev G s x) f K
  | .indexAddr T x i => vindexAddr P T (ev G s x).fz (ev G s i) K
  | .index T x i => vindex P T (ev G s x) (ev G s i) K
  | .slice T x lo hi mx => vslice P T (ev G s x).fz (lo.map (ev G s)) (hi.map (ev G s)) (mx.map (ev G s)) K
  | .convert src dst x => vconv P src dst (vw s (ev G s x)).fz K
  | .build T parts => vbuild P T (parts.toList.map fun (i, x) => (i, ev G s x)) K
  | .buildSlice T len parts => vbuildSlice P T len (parts.toList.map fun (i, x) => (i, ev G s x)) K
  | .extract x i => match ev G s x with
    | .tup ds => match ds[i]? with
      | some d => K d
      | none => False
    | _ => False
  | .lookup T x k ok => vlookup P T s (ev G s x) (ev G s k) ok K
  | .range T x => vrange P T s (ev G s x) K
  | .entry x => ventry s (ev G s x) K
  | .makeFunc f first captured => ((first.toList.map (ev G s)).all V.isPR = true ∧ (captured.toList.map (ev G s)).all V.isPR = true) ∧ K (.clo f (first.toList.map (ev G s)) (captured.toList.map (ev G s)))
  | .call { callee := .value f, args := args, .. } => vcall P G s (ev G s f) (args.toList.map (ev G s)) K
  | .call { callee := .builtin .append, args := args, argTypes := ts } => vbuiltin P .append ts.toList (args.toList.map fun x => vw s (ev G s x)) K
  | .call { callee := .builtin b, args := args, argTypes := ts } => vbuiltin P b ts.toList (args.toList.map (ev G s)) K
  | _ => False

/-- The slots that an operation may use up. -/
def consT (tr : List Nat) (o : Oper) : Option Tmp :=
  match o.op with
  | .move (.tmp t) => if inTr tr o.dst then some t else none
  | .assign (.tmp t) => some t
  | .call { callee := .builtin .append, args := args, .. } => match args.toList with
    | .tmp t :: _ => some t
    | _ => none
  | .store _ _ (.tmp t) => some t
  | .box _ (.tmp t) => some t
  | _ => none

def V.isOw : V → Bool
  | .ow _ _ => true
  | .it _ _ _ _ => true
  | _ => false

def S.use (s : S) : Option Tmp → S
  | some t => if (s.fr t).isOw then s.clr t else s
  | none => s

def S.after (tr : List Nat) (o : Oper) (s : S) (v : V) : S := (s.use (consT tr o)).put o.dst v

def zeroV : C → V
  | .sl [] => .ow none []
  | c => .c c

def V.bcells : V → Option (List V)
  | .c x => some [.c x]
  | .ow E es => some [.ow E es]
  | .bp i off => some [.bp i off]
  | .clo f fs cs => some [.clo f fs cs]
  | .agg cs => some (cs.map .c)
  | .ms i off len cap sz => some [.ms i off len cap sz]
  | .mr i => some [.mr i]
  | .mag vs => some vs
  | _ => none

def setV (vs : List V) (off : Nat) (ds : List V) : List V := vs.take off ++ ds ++ vs.drop (off + ds.length)

/-- Calls that may change boxes, and slices that are made as boxes, stand in the list 'tr' under numbers of their own. -/
def isMut (tr : List Nat) (d : Option Tmp) : Bool := tr.contains (match d with | some d => 1000000 + d | none => 999999)
def isNew (tr : List Nat) (d : Option Tmp) : Bool := match d with | some d => tr.contains (2000000 + d) | none => false

/-- A new box for the elements of a slice. -/
def vnewE (bx : Nat → List V) (nb n m : Nat) (K : (Nat → List V) → Nat → V → Prop) : V → Prop
  | .ow (some (_, sz)) es => K (up bx nb (es.flatten.map .c)) (nb + 1) (.ms nb 0 n m sz)
  | _ => False
def vnew (s : S) (d : Option Tmp) (n m : Nat) (K : S → Prop) : V → Prop := vnewE s.bx s.nb n m fun bx nb x => K ({ s with bx := bx, nb := nb }.put d x)

def vmake (P : Program) (T : TypeId) (l c : V) (K : Nat → Nat → Nat → List C → Prop) : Prop :=
  match ti P T, l, c with
  | some { kd := .slice e, .. }, .c (.lit (.int _ n)), .c (.lit (.int _ m)) => match ti P e with
    | some { size := sz, bytes := by_, zero := some z, .. } => (0 < sz ∧ z.length = sz ∧ 0 ≤ n ∧ n ≤ m ∧ (by_ : Int) * m ≤ 281474976710656 ∧ m ≤ 9223372036854775807) ∧ K n.toNat m.toNat sz z
    | _ => False
  | _, _, _ => False

/-- What is appended to a slice without room of its own lies in a new block: a box. -/
def vanK (s : S) (d : Option Tmp) (K : S → Prop) : V → Prop
  | .ow (some (_, sz)) es => K ({ s with bx := up s.bx s.nb (es.flatten.map .c), nb := s.nb + 1 }.put d (.ms s.nb 0 es.length es.length sz))
  | _ => False
def vappNew (P : Program) (s : S) (d : Option Tmp) (K : S → Prop) : List TypeId → List V → Prop
  | [t, u], [.ow none es, y] => t = u ∧ vappend P t (.ow none es) y.fz (vanK s d K)
  | _, _ => False
def isNilOp : Operand → Bool
  | .const (.slice none 0 0) => true
  | _ => false

/-- Is a slice nil? One without elements may be so or not. -/
def vnilB : V → (Bool → Prop) → Prop
  | .c (.sl (_ :: _)), K => K false
  | .ow _ (_ :: _), K => K false
  | .ms _ _ _ _ _, K => K false
  | .c (.sl []), K => K true ∧ K false
  | .ow _ [], K => K true ∧ K false
  | _, _ => False
def vnil (P : Program) (op : BinOp) (T : TypeId) (x : V) (K : V → Prop) : Prop := match ti P T with
  | some { kd := .slice _, .. } => match op with
    | .eql => vnilB x fun b => K (.c (.lit (.bool b)))
    | .neq => vnilB x fun b => K (.c (.lit (.bool (!b))))
    | _ => False
  | _ => False

/-- A read of a slice without room of its own, and a literal whose other fields are nil: under numbers of their own in 'tr'. -/
def isZ (tr : List Nat) (d : Option Tmp) : Bool := match d with | some d => tr.contains (2500000 + d) | none => false
def vloadZ (P : Program) (T : TypeId) (s : S) (x : V) (K : V → Prop) : Prop := match ti P T, x with
  | some i, .bp b k => (b < s.nb ∧ i.agg = false ∧ isMb (s.bx b) = false) ∧ match (s.bx b)[k]? with
    | some (.ow none es) => K (.ow none es)
    | _ => False
  | _, _ => False
def vbuildZ (P : Program) (T : TypeId) (parts : List (Nat × V)) (K : V → Prop) : Prop := match ti P T with
  | some { kd := .struct, zero := some z, flds := flds, .. } => match fillM flds parts (z.map zeroV) with
    | some vs => K (.mag vs)
    | none => False
  | _ => False

/-- In which box a read (its slot) or a store (its pointer's slot) is, if 'tr' says so: 200000 + t says that it says so, 300000 + 100 t + b says which. -/
def declB (tr : List Nat) (t b : Nat) : Bool := !tr.contains (200000 + t) || (decide (b < 100) && tr.contains (300000 + t * 100 + b))
def declV (tr : List Nat) (t : Option Tmp) (v : V) : Bool := match t, v with
  | some t, .bp b _ => declB tr t b
  | some t, _ => !tr.contains (200000 + t)
  | none, _ => true
def ptrT : Operand → Option Tmp
  | .tmp t => some t
  | _ => none

/-- Is it an operation that has no place in a region that draws its order? -/
def isAN (tr : List Nat) (o : Oper) : Bool := match o.op with
  | .call { callee := .builtin .append, .. } => isNew tr o.dst
  | .binOp _ _ _ y _ => isNilOp y
  | .load _ _ => isZ tr o.dst
  | .build _ _ => isZ tr o.dst
  | .makeMap _ none => true
  | .next (.tmp _) false => true
  | _ => false

/-- One operation. -/
def VStep (P : Program) (G : Gl) (tr : List Nat) (o : Oper) (s : S) (K : S → Prop) : Prop :=
  match o.op with
  | .alloc T => match ti P T with
    | some { zero := some z, .. } => K ({ s with bx := up s.bx s.nb (z.map zeroV), nb := s.nb + 1 }.put o.dst (.bp s.nb 0))
    | _ => False
  | .box _ x => match (ev G s x).bcells with
    | some cs => K ((let s' := s.use (consT tr o); { s' with bx := up s'.bx s'.nb cs, nb := s'.nb + 1 }).put o.dst (.bp s.nb 0))
    | none => False
  | .store T p x => declV tr (ptrT p) (ev G s p) = true ∧ match ti P T, ev G s p, (ev G s x).bcells with
    | some i, .bp b k, some cs => (b < s.nb ∧ cs.length = i.size ∧ k + i.size ≤ (s.bx b).length ∧ isMb (s.bx b) = false) ∧
      K ((let s' := s.use (consT tr o); { s' with bx := up s'.bx b (setV (s'.bx b) k cs) }).put o.dst .sk)
    | _, _, _ => False
  | .buildSlice T len parts => if isNew tr o.dst then vbuildSlice P T len (parts.toList.map fun (i, x) => (i, ev G s x)) (vnew s o.dst len len K) else VYK P G tr o s fun v => K (s.after tr o v)
  | .makeSlice T l c => vmake P T (ev G s l) (ev G s c) fun n m sz z => K ({ s with bx := up s.bx s.nb ((List.replicate m z).flatten.map .c), nb := s.nb + 1 }.put o.dst (.ms s.nb 0 n m sz))
  | .call { callee := .value f, args := args, .. } => if isMut tr o.dst then vcallB P G s (ev G s f) (args.toList.map (ev G s)) (fun s' x => K (s'.put o.dst x)) else VYK P G tr o s fun v => K (s.after tr o v)
  | .call { callee := .builtin .append, args := args, argTypes := ts } => if isNew tr o.dst then vappNew P s o.dst K ts.toList (args.toList.map fun x => vw s (ev G s x)) else VYK P G tr o s fun v => K (s.after tr o v)
  | .binOp op T x y _ => if isNilOp y then vnil P op T (ev G s x) (fun v => K (s.after tr o v)) else VYK P G tr o s fun v => K (s.after tr o v)
  | .load T x => if isZ tr o.dst then vloadZ P T s (ev G s x) (fun v => K (s.put o.dst v)) else declV tr o.dst (ev G s x) = true ∧ VYK P G tr o s fun v => K (s.after tr o v)
  | .build T parts => if isZ tr o.dst then vbuildZ P T (parts.toList.map fun (i, x) => (i, ev G s x)) (fun v => K (s.put o.dst v)) else VYK P G tr o s fun v => K (s.after tr o v)
  | .makeMap T none => match ti P T with
    | some { kd := .map _ _, .. } => K ({ s with bx := up s.bx s.nb [.mk [] 0], nb := s.nb + 1 }.put o.dst (.mr s.nb))
    | _ => False
  | .mapUpdate T m k x => vmapSet P T s (ev G s m) (ev G s k) (ev G s x) fun s' => K (s'.put o.dst .sk)
  | .mapEntry T m k => vmapEntry P T s (ev G s m) (ev G s k) fun s' v => K (s'.put o.dst v)
  | .entryStore _ m n x => ventrySet s (ev G s m) (ev G s n) (ev G s x) fun s' => K (s'.put o.dst .sk)
  | .next (.tmp t) false => vnext s (s.fr t) fun it v => K ((match it with | some x => { s with fr := up s.fr t x } | none => s).put o.dst v)
  | _ => VYK P G tr o s fun v => K (s.after tr o v)

/-- Is an operation under a guard carried out? Where the answer is not known, both ways are gone. -/
def vguard (ops : Array Oper) (o : Oper) (s : S) (yes no : S → Prop) : Prop :=
  match o.guard with
  | none => yes s
  | some (j, want) => match (ops[j]?).bind (·.dst) with
    | some d => match s.fr d with
      | .c (.lit (.bool p)) => (p = want → yes { s with fr := up s.fr d (.c (.lit (.bool want))) }) ∧ (p = (!want) → no { s with fr := up s.fr d (.c (.lit (.bool (!want)))) })
      | .sk => no s
      | _ => False
    | none => False

def vops (P : Program) (G : Gl) (tr : List Nat) (ops : Array Oper) : List Oper → S → (S → Prop) → Prop
  | [], s, K => K s
  | o :: r, s, K => vguard ops o s (fun s => VStep P G tr o s fun s' => vops P G tr ops r s' K) (fun s => vops P G tr ops r (s.put o.dst .sk) K)

inductive VE where
  | normal | exit (id : Nat) | ret

def refine (s : S) (c : Operand) (p : Bool) : S := match c with
  | .tmp t => { s with fr := up s.fr t (.c (.lit (.bool p))) }
  | _ => s

/-- How many boxes come from outside. -/
def extK (tr : List Nat) : Nat := match tr.find? (fun x => decide (3000000 ≤ x)) with
  | some x => x - 3000000
  | none => 0

def FrLe (f g : Nat → V) : Prop := ∀ t, f t = .un ∨ f t = g t

/-- A state that knows less. -/
structure S.Le (k : Nat) (s' s : S) : Prop where
  ext : k ≤ s'.nb
  fr : FrLe s'.fr s.fr
  nb : s'.nb ≤ s.nb
  bx : ∀ i, i < s'.nb → s'.bx i = s.bx i
  lt : ∀ t, (s'.fr t).lt s'.nb
  blt : ∀ i, i < s'.nb → ∀ x ∈ s'.bx i, x.lt s'.nb

/-- A state that knows less, some of whose last boxes are there for good from now on: a view of such a box is what it holds. -/
def FzV (s : S) (m : Nat) (x y : V) : Prop := ∃ i off len cap sz c, y = .ms i off len cap sz ∧ m ≤ i ∧ viewC s i off len sz = some c ∧ x = .c c
structure S.Fz (k : Nat) (s' s : S) : Prop where
  ext : k ≤ s'.nb
  fr : ∀ t, s'.fr t = .un ∨ s'.fr t = s.fr t ∨ FzV s s'.nb (s'.fr t) (s.fr t)
  nb : s'.nb ≤ s.nb
  bl : ∀ i, i < s'.nb → (s'.bx i).length = (s.bx i).length
  bx : ∀ i, i < s'.nb → ∀ j, (s'.bx i).getD j .un = (s.bx i).getD j .un ∨ FzV s s'.nb ((s'.bx i).getD j .un) ((s.bx i).getD j .un)
  lt : ∀ t, (s'.fr t).lt s'.nb
  blt : ∀ i, i < s'.nb → ∀ x ∈ s'.bx i, x.lt s'.nb
def isFz (tr : List Nat) (id : Nat) : Bool := tr.contains (2600000 + id)

/-- n rounds at most; what need not be known any more may be forgotten at each round's head. -/
def vrounds (k : Nat) (body : (VE → S → Prop) → S → Prop) (Q : VE → S → Prop) : Nat → S → Prop
  | 0, _ => False
  | n + 1, s => ∃ s', (s' = s ∨ S.Le k s' s) ∧ body (fun e s' => match e with | .normal => vrounds k body Q n s' | e => Q e s') s'

def vwpK (P : Program) (G : Gl) (tr : List Nat) (k : Nat) : Code → (VE → S → Prop) → S → Prop
  | .skip, Q, s => Q .normal s
  | .region id ops _, Q, s => if isFz tr id then ∃ s', S.Fz k s' s ∧ vops P G tr ops ops.toList s' (Q .normal) else vops P G tr ops ops.toList s (Q .normal)
  | .seq a b, Q, s => vwpK P G tr k a (fun e s' => match e with | .normal => vwpK P G tr k b Q s' | e => Q e s') s
  | .cond c x y, Q, s => match ev G s c with
    | .c (.lit (.bool p)) => (p = true → vwpK P G tr k x Q (refine s c true)) ∧ (p = false → vwpK P G tr k y Q (refine s c false))
    | _ => False
  | .block id body, Q, s => vwpK P G tr k body (fun e s' => match e with | .exit i => if i = id then Q .normal s' else Q (.exit i) s' | e => Q e s') s
  | .loop body, Q, s => ∃ n, vrounds k (vwpK P G tr k body) Q n s
  | .exit id, Q, s => Q (.exit id) s
  | .ret, Q, s => Q .ret s
  | .label _, Q, s => Q .normal s
  | _, _, _ => False

/-- The same, the number of boxes from outside taken from 'tr'. -/
def vwp (P : Program) (G : Gl) (tr : List Nat) : Code → (VE → S → Prop) → S → Prop := vwpK P G tr (extK tr)

end Go.Vl

/- Values without memory: the operations keep the relation (first part). -/
namespace Go.Vl
open Go Go.RowKit

theorem _root_.List.mapM_eq_some_length {α β : Type} {f : α → Option β} : ∀ {l : List α} {r : List β}, l.mapM f = some r → r.length = l.length
  | [], r, h => by simp at h; subst h; rfl
  | x :: l, r, h => by
    rw [List.mapM_cons] at h
    simp only [bind, Option.bind_eq_some_iff, pure, Option.some.injEq] at h
    obtain ⟨y, _, ys, h2, rfl⟩ := h
    simp [List.mapM_eq_some_length h2]

theorem _root_.List.mapM_eq_some_get {α β : Type} {f : α → Option β} : ∀ {l : List α} {r : List β}, l.mapM f = some r → ∀ (j : Nat) (y : β), r[j]? = some y → ∃ x, l[j]? = some x ∧ f x = some y
  | [], r, h, j, y, hy => by simp at h; subst h; simp at hy
  | x :: l, r, h, j, y, hy => by
    rw [List.mapM_cons] at h
    simp only [bind, Option.bind_eq_some_iff, pure, Option.some.injEq] at h
    obtain ⟨y', h1, ys, h2, rfl⟩ := h
    cases j with
    | zero => simp at hy; subst hy; exact ⟨x, rfl, h1⟩
    | succ j => exact List.mapM_eq_some_get h2 j y (by simpa using hy)

section
variable {P : Program} {G : Gl} {tr : List Nat} {n : Nat} {I0 : Ft} {M : Mx} {w0 : World} {I : Ft} {β : Nat → Option Nat} {ob : Loc → Option Nat} {s : S} {a : Act} {w : World} {o : Oper}
  {next : Act → World → Prop} {Q : Exit → Act → World → Prop} {base : Nat → Prop} {v : Value} {x : V}

/-- The relation, its ghosts hidden. -/
def SE (G : Gl) (n : Nat) (I0 : Ft) (M : Mx) (w0 : World) (s : S) (a : Act) (w : World) : Prop := ∃ I β ob, St G n I0 M w0 I β ob s a w

def opOb (ob : Loc → Option Nat) : Operand → Option Nat
  | .tmp t => ob (.t t)
  | _ => none

theorem isMb_of_asC {l : List V} {cs : List C} (h : l.mapM V.asC = some cs) : isMb l = false := by
  cases l with
  | nil => rfl
  | cons x l => cases x <;> first | rfl | simp [List.mapM_cons, V.asC] at h

theorem LR.lit {o : Option Nat} {u : Value} (h : LR base I β w o v (.c (.lit u))) : v = u := by
  simp only [LR] at h
  cases h with | c _ _ h => cases h; rfl

theorem LR.ofC {o : Option Nat} {c : C} (h : CR I w v c) : LR base I β w o v (.c c) := by
  simp only [LR]; exact .c _ _ h
theorem LR.toC {o : Option Nat} {c : C} (h : LR base I β w o v (.c c)) : CR I w v c := by
  simp only [LR] at h
  cases h with | c _ _ h => exact h
theorem LR.ofLit {o : Option Nat} (h : flat v = true) : LR base I β w o v (.c (.lit v)) := .ofC (.lit v h)

theorem LR.fz {o : Option Nat} (h : LR base I β w o v x) (o' : Option Nat) : LR base I β w o' v x.fz := by
  cases x <;> simp only [V.fz, LR] at h ⊢ <;> first | exact h | exact .un _ | exact .c _ _ h.1

theorem LR.other {o o' : Option Nat} (hx : x.isOw = false) (h : LR base I β w o v x) : LR base I β w o' v x := by
  cases x <;> simp only [LR] at h ⊢ <;> first | exact h | cases hx

theorem LR.agg {o : Option Nat} {cs : List C} (h : LR base I β w o v (.agg cs)) : ∃ vs : Array Value, v = .agg vs ∧ vs.size = cs.length ∧ ∀ j c, cs[j]? = some c → CR I w (vs.getD j undef) c := by
  simp only [LR] at h
  cases h with | agg vs _ h1 h2 => exact ⟨vs, rfl, h1, h2⟩

theorem LR.const (u : Value) : LR base I β w none u (constV u) := by
  unfold constV
  split
  · exact ⟨.nil none 0 (fun _ => rfl), .inl ⟨rfl, rfl, none, rfl⟩⟩
  · split
    · exact .ofLit ‹_›
    · simp only [LR]; exact .un _

theorem ev_sound (hst : St G n I0 M w0 I β ob s a w) (x : Operand) : LR (Wr M w0) I β w (opOb ob x) (a.eval x) (ev G s x) := by
  cases x with
  | tmp t => exact hst.fr t
  | const u => exact .const u
  | global g =>
    simp only [ev, Act.eval]
    split
    · exact .ofC (hst.glob g _ ‹_›)
    · simp only [LR]; exact .un _
  | func f => exact .ofC (.fn _ _ _ _ _ rfl rfl (by simp) (by simp))

theorem ev_fz (hst : St G n I0 M w0 I β ob s a w) (x : Operand) : LR (Wr M w0) I β w none (a.eval x) (ev G s x).fz := (ev_sound hst x).fz _

theorem wp_value {v' : Value} {w' : World} (h : (execOp a.eval o).run P w = .ok (.value v') w') (hn : next (a.put o.dst v') w') : o.wp P a w next Q := by
  unfold Oper.wp; rw [h]; exact hn

/-- The slot that is used up is emptied. -/
theorem St.use (h : St G n I0 M w0 I β ob s a w) (t : Option Tmp) : ∃ ob', St G n I0 M w0 I β ob' (s.use t) a w ∧
    (∀ L b, ob' L = some b → ob L = some b ∧ ∀ u, t = some u → L = .t u → (s.fr u).isOw = false) := by
  cases t with
  | none => exact ⟨ob, h, fun L b hb => ⟨hb, fun u hu => by cases hu⟩⟩
  | some t =>
    simp only [S.use]
    split
    · refine ⟨_, h.clr t, fun L b hb => ?_⟩
      simp only [upL] at hb
      split at hb
      · cases hb
      · rename_i h1
        exact ⟨hb, fun u hu hL => by cases hu; exact absurd hL h1⟩
    · rename_i h1
      exact ⟨ob, h, fun L b hb => ⟨hb, fun u hu _ => by cases hu; simpa using h1⟩⟩

/-- What an operation leaves. -/
theorem SE.fin (h : St G n I0 M w0 I β ob s a w) (hd : ∀ d, o.dst = some d → d < n) {o' : Option Nat} (hv : LR (Wr M w0) I β w o' v x)
    (ho : ∀ b, o' = some b → (b < w.heap.size ∧ Wr M w0 b) ∧ (∀ i, β i ≠ some b) ∧ ∀ L, ob L = some b → ∃ t, L = .t t ∧ consT tr o = some t ∧ (s.fr t).isOw = true) :
    SE G n I0 M w0 (s.after tr o x) (a.put o.dst v) w := by
  obtain ⟨ob', h1, h2⟩ := h.use (consT tr o)
  unfold S.after
  cases hdst : o.dst with
  | none => exact ⟨_, _, _, h1⟩
  | some d =>
    refine ⟨_, _, _, h1.put d (hd d hdst) hv fun b hb => ?_⟩
    obtain ⟨h3, h4, h5⟩ := ho b hb
    refine ⟨h3, fun L hL => ?_, h4⟩
    simp only [upL] at hL
    split at hL
    · cases hL
    · obtain ⟨h6, h7⟩ := h2 L b hL
      obtain ⟨t, h8, h9, h10⟩ := h5 L h6
      rw [h7 t h9 h8] at h10
      cases h10

/-- The same, where what is left owns nothing. -/
theorem SE.fin0 (h : St G n I0 M w0 I β ob s a w) (hd : ∀ d, o.dst = some d → d < n) (hv : LR (Wr M w0) I β w none v x) : SE G n I0 M w0 (s.after tr o x) (a.put o.dst v) w :=
  .fin h hd hv fun _ hb => by cases hb

/-- A value that reads no memory. -/
theorem wp_lit (h : St G n I0 M w0 I β ob s a w) (hd : ∀ d, o.dst = some d → d < n) (hf : flat v = true) (hrun : (execOp a.eval o).run P w = .ok (.value v) w) {K : V → Prop} (hK : K (.c (.lit v)))
    (hk : ∀ a' w' x, K x → SE G n I0 M w0 (s.after tr o x) a' w' → next a' w') : o.wp P a w next Q :=
  wp_value hrun (hk _ _ _ hK (.fin0 h hd (.ofLit hf)))

theorem move_ok (hst : St G n I0 M w0 I β ob s a w) (hd : ∀ d, o.dst = some d → d < n) {x : Operand} (hx : consT tr o = (match x with | .tmp t => some t | _ => none)) :
    SE G n I0 M w0 (s.after tr o (ev G s x)) (a.put o.dst (a.eval x)) w := by
  by_cases hox : (ev G s x).isOw = true
  · refine .fin hst hd (ev_sound hst x) fun b hb => ?_
    cases x with
    | tmp t =>
      refine ⟨hst.obnd _ b hb, fun i => hst.obx _ b i hb, fun L hL => ⟨t, hst.oinj _ _ b hL hb, hx, hox⟩⟩
    | _ => cases hb
  · exact .fin0 hst hd ((ev_sound hst x).other (by simpa using hox))

theorem copy_ok (hst : St G n I0 M w0 I β ob s a w) (hd : ∀ d, o.dst = some d → d < n) (x : Operand) :
    SE G n I0 M w0 (s.after tr o (ev G s x).fz) (a.put o.dst (a.eval x)) w := .fin0 hst hd (ev_fz hst x)

theorem ti_spec {T : TypeId} {i : TI} (h : ti P T = some i) : ∃ j d, P.info? T = some j ∧ P.underlying T = some d ∧ i.kd = kdOf d ∧ i.size = j.size ∧ i.bytes = j.bytes ∧ i.agg = isAggB P T ∧
    (i.zero = match j.zero with | some v => v.cells.toList.mapM zc | none => none) ∧
    (i.flds = fldsOf P d) ∧
    (i.eqs = if P.eqGuardType P.depth T then none else eqk P 8 T) ∧ fldsOk P d = true := by
  unfold ti at h
  split at h
  · rename_i j d h1 h2
    split at h
    · cases h
    · rename_i hf
      simp only [Option.some.injEq] at h
      subst h
      exact ⟨j, d, h1, h2, rfl, rfl, rfl, rfl, rfl, rfl, rfl, by simpa using hf⟩
  · cases h

theorem kdOf_slice {d : TypeDesc} {e : TypeId} (h : K.slice e = kdOf d) : d = .slice e := by cases d <;> simp_all [kdOf]
theorem kdOf_bool {d : TypeDesc} (h : K.bool = kdOf d) : d = .bool := by cases d <;> simp_all [kdOf]
theorem kdOf_str {d : TypeDesc} (h : K.str = kdOf d) : d = .string := by cases d <;> simp_all [kdOf]
theorem kdOf_int {d : TypeDesc} {k : IntKind} (h : K.int k = kdOf d) : d = .int k := by cases d <;> simp_all [kdOf]
theorem kdOf_arr {d : TypeDesc} {n : Nat} {e : TypeId} (h : K.arr n e = kdOf d) : d = .array n e := by cases d <;> simp_all [kdOf]
theorem kdOf_struct {d : TypeDesc} (h : K.struct = kdOf d) : ∃ fs, d = .struct fs := by cases d <;> simp_all [kdOf]

end
end Go.Vl

/- Values without memory: '==' on structs and arrays. -/
namespace Go.Vl
open Go Go.RowKit

section
variable {P : Program} {I : Ft} {w : World}

theorem beq_bytes (a b : ByteArray) : (a == b) = decide (a = b) := by
  rw [Bool.eq_iff_iff, decide_eq_true_iff]
  constructor
  · intro h
    obtain ⟨⟨x⟩⟩ := a
    obtain ⟨⟨y⟩⟩ := b
    have : ((⟨x⟩ : Array UInt8) == ⟨y⟩) = true := h
    simp at this
    subst this; rfl
  · rintro rfl
    obtain ⟨⟨x⟩⟩ := a
    show ((⟨x⟩ : Array UInt8) == ⟨x⟩) = true
    simp
theorem beq_toList (a b : ByteArray) : (a.toList == b.toList) = decide (a = b) := by rw [← beq_toListBytes, beq_bytes]

/-- Cells and what they mean. -/
def Cells (I : Ft) (w : World) (xs : Array Value) (cs : List C) : Prop := xs.size = cs.length ∧ ∀ j c, cs[j]? = some c → CR I w (xs.getD j undef) c

theorem Cells.extract {xs : Array Value} {cs : List C} (h : Cells I w xs cs) (a b : Nat) (hb : a + b ≤ xs.size) : Cells I w (xs.extract a (a + b)) ((cs.drop a).take b) := by
  have hs := h.1
  refine ⟨by simp; omega, fun j c hc => ?_⟩
  rw [List.getElem?_take] at hc
  split at hc
  · rename_i hj
    rw [List.getElem?_drop] at hc
    have := h.2 (a + j) c hc
    have e : (xs.extract a (a + b)).getD j undef = xs.getD (a + j) undef := by
      simp [Array.getElem?_extract]
      rw [if_pos (by omega)]
    rw [e]; exact this
  · cases hc

def mkv (P : Program) (t : TypeId) (xs : Array Value) : Value := if isAggB P t then .agg xs else xs.getD 0 undef

theorem run_isAgg (t : TypeId) (d : TypeDesc) (h : P.underlying t = some d) : (isAgg t).run P w = .ok (isAggB P t) w := by
  unfold isAgg isAggB
  simp only [Sem.run_bind, run_underlying h, Result.andThen_ok, h]
  cases d <;> rfl

theorem run_part (t : TypeId) (d : TypeDesc) (h : P.underlying t = some d) (cs : Array Value) (off : Nat) (hb : off + P.cellsOf t ≤ cs.size) (h1 : isAggB P t = false → P.cellsOf t = 1) :
    (part t cs off).run P w = .ok (mkv P t (cs.extract off (off + P.cellsOf t))) w := by
  obtain ⟨i, hi⟩ := info_of_underlying h
  unfold part mkv
  simp only [Sem.run_bind, run_isAgg t d h, Result.andThen_ok]
  cases hb' : isAggB P t with
  | true => simp [run_sizeOf w hi]
  | false =>
    have := h1 hb'
    simp only [Bool.false_eq_true, if_false]
    have hlt : off < cs.size := by omega
    simp only [Array.getElem?_eq_getElem hlt]
    have hm : 0 < min (off + 1) cs.size - off := by omega
    simp [Array.getElem?_extract, this, hlt, hm]

theorem eqCs_append : ∀ (a b : List EK) (cs ds : List C) (r : Bool), eqCs (a ++ b) cs ds = some r → ∃ p q, eqCs a (cs.take a.length) (ds.take a.length) = some p ∧ eqCs b (cs.drop a.length) (ds.drop a.length) = some q ∧ r = (p && q)
  | [], b, cs, ds, r, h => ⟨true, r, rfl, by simpa using h, by simp⟩
  | k :: a, b, cs, ds, r, h => by
    cases cs with
    | nil => simp [eqCs] at h
    | cons c cs =>
      cases ds with
      | nil => simp [eqCs] at h
      | cons d ds =>
        simp only [List.cons_append, eqCs] at h
        split at h
        · rename_i p q h1 h2
          obtain ⟨p', q', e1, e2, e3⟩ := eqCs_append a b cs ds q h2
          refine ⟨p && p', q', ?_, by simpa using e2, ?_⟩
          · simp [eqCs, h1, e1]
          · simp only [Option.some.injEq] at h; rw [← h, e3, Bool.and_assoc]
        · cases h

theorem eqCs_take {ks : List EK} {cs ds : List C} {r : Bool} (h : eqCs ks cs ds = some r) : eqCs ks (cs.take ks.length) (ds.take ks.length) = some r := by
  have := eqCs_append ks [] cs ds r (by simpa using h)
  obtain ⟨p, q, e1, e2, e3⟩ := this
  simp [eqCs] at e2
  subst e2
  rw [e1, e3]; simp

theorem eqFs_spec (r : TypeId → Option (List EK)) : ∀ (fs : List Field) (acc ks : List EK), eqFs P r fs acc = some ks → ∃ rest, ks = acc ++ rest
  | [], acc, ks, h => ⟨[], by simp [eqFs] at h; simp [h]⟩
  | f :: fs, acc, ks, h => by
    simp only [eqFs] at h
    split at h
    · rename_i k1 _
      split at h
      · obtain ⟨rest, hr⟩ := eqFs_spec r fs _ _ h
        exact ⟨k1 ++ rest, by rw [hr, List.append_assoc]⟩
      · cases h
    · cases h

theorem eqk_one {d : Nat} {t : TypeId} {ks : List EK} (h : eqk P d t = some ks) (hz : isAggB P t = false) : ks.length = 1 := by
  cases d with
  | zero => simp [eqk] at h
  | succ d =>
    unfold eqk at h
    unfold isAggB at hz
    split at h <;> first | (simp only [Option.some.injEq] at h; subst h; rfl) | simp_all

theorem eqk_under {d : Nat} {t : TypeId} {ks : List EK} (h : eqk P d t = some ks) : ∃ u, P.underlying t = some u := by
  cases d with
  | zero => simp [eqk] at h
  | succ d =>
    unfold eqk at h
    cases hu : P.underlying t with
    | none => simp [hu] at h
    | some u => exact ⟨u, rfl⟩

theorem CR.lit_eq {v u : Value} (h : CR I w v (.lit u)) : v = u := by cases h; rfl

theorem eqC_int {c e : C} {r : Bool} (h : eqC .int c e = some r) : ∃ k a b, c = .lit (.int k a) ∧ e = .lit (.int k b) ∧ r = decide (a = b) := by
  unfold eqC at h
  split at h <;> first | contradiction | skip
  split at h
  · rename_i hk; subst hk; exact ⟨_, _, _, rfl, rfl, by simpa using h.symm⟩
  · cases h
theorem eqC_bool {c e : C} {r : Bool} (h : eqC .bool c e = some r) : ∃ a b, c = .lit (.bool a) ∧ e = .lit (.bool b) ∧ r = (a == b) := by
  unfold eqC at h
  split at h <;> first | contradiction | skip
  exact ⟨_, _, rfl, rfl, by simpa using h.symm⟩
theorem eqC_str {c e : C} {r : Bool} (h : eqC .str c e = some r) : ∃ a b, c = .lit (.string a) ∧ e = .lit (.string b) ∧ r = decide (a = b) := by
  unfold eqC at h
  split at h <;> first | contradiction | skip
  exact ⟨_, _, rfl, rfl, by simpa using h.symm⟩

theorem getD_of {xs : Array Value} {j : Nat} {v : Value} (h : xs.getD j undef = v) (hj : j < xs.size) : xs[j]? = some v := by
  simp [Array.getElem?_eq_getElem hj] at h ⊢; exact h

theorem eqk_sound : ∀ (d : Nat) (t : TypeId) (ks : List EK), eqk P d t = some ks → ∀ (D : Nat), d ≤ D → ∀ (xs ys : Array Value) (cs ds : List C) (r : Bool), Cells I w xs cs → Cells I w ys ds →
    xs.size = ks.length → ys.size = ks.length → eqCs ks cs ds = some r → (Op.equalIn D t (mkv P t xs) (mkv P t ys)).run P w = .ok r w := by
  intro d
  induction d with
  | zero => intro t ks h; simp [eqk] at h
  | succ d ih =>
    intro t ks h D hD xs ys cs ds r hx hy hxs hys hr
    obtain ⟨D, rfl⟩ : ∃ E, D = E + 1 := ⟨D - 1, by omega⟩
    have hD' : d ≤ D := by omega
    have scalar : ∀ k, ks = [k] → isAggB P t = false → ∃ c e, eqC k c e = some r ∧ CR I w (mkv P t xs) c ∧ CR I w (mkv P t ys) e := by
      intro k hk hz
      subst hk
      have h1 := hx.1; have h2 := hy.1
      simp at hxs hys
      rw [hxs] at h1; rw [hys] at h2
      obtain ⟨c, rfl⟩ := List.length_eq_one_iff.1 h1.symm
      obtain ⟨e, rfl⟩ := List.length_eq_one_iff.1 h2.symm
      simp only [eqCs] at hr
      split at hr
      · rename_i p q e1 e2
        simp only [Option.some.injEq] at e2 hr
        subst e2
        refine ⟨c, e, by rw [e1]; simpa using hr, ?_, ?_⟩
        · simp only [mkv, hz]; exact hx.2 0 c rfl
        · simp only [mkv, hz]; exact hy.2 0 e rfl
      · cases hr
    unfold eqk at h
    split at h
    · rename_i k hu
      simp only [Option.some.injEq] at h
      obtain ⟨c, e, he, h1, h2⟩ := scalar .int h.symm (by simp [isAggB, hu])
      obtain ⟨kk, a, b, rfl, rfl, rfl⟩ := eqC_int he
      rw [h1.lit_eq, h2.lit_eq, run_equalIn_int w D t _ k _ _ hu]
      congr 1
    · rename_i hu
      simp only [Option.some.injEq] at h
      obtain ⟨c, e, he, h1, h2⟩ := scalar .bool h.symm (by simp [isAggB, hu])
      obtain ⟨a, b, rfl, rfl, rfl⟩ := eqC_bool he
      rw [h1.lit_eq, h2.lit_eq, run_equalIn_bool' w D t _ _ hu]
    · rename_i hu
      simp only [Option.some.injEq] at h
      obtain ⟨c, e, he, h1, h2⟩ := scalar .str h.symm (by simp [isAggB, hu])
      obtain ⟨a, b, rfl, rfl, rfl⟩ := eqC_str he
      rw [h1.lit_eq, h2.lit_eq, run_equalIn_string w D t _ _ hu, beq_toList]
    · rename_i fs hu
      split at h
      · cases h
      · rename_i hst
        have hfo : P.fieldsOf t = fs := by simp [Program.fieldsOf, hu]
        have hag : isAggB P t = true := by simp [isAggB, hu]
        simp only [mkv, hag, if_true]
        rw [run_equalIn_struct w D t xs ys (by rw [hfo]; exact hu) (by simpa using hst), hfo]
        have key : ∀ (l : List Field) (acc : List EK), eqFs P (eqk P d) l acc = some ks → ∀ r, eqCs (ks.drop acc.length) (cs.drop acc.length) (ds.drop acc.length) = some r →
            (Op.eqFields D xs ys l).run P w = .ok r w := by
          intro l
          induction l with
          | nil =>
            intro acc h r hr
            simp only [eqFs, Option.some.injEq] at h
            subst h
            simp [eqCs] at hr
            subst hr
            simp [Op.eqFields]
          | cons f l ihl =>
            intro acc h r hr
            simp only [eqFs] at h
            split at h
            · rename_i k1 hk1
              split at h
              · rename_i hc
                obtain ⟨hn, hoff, hlen⟩ := hc
                obtain ⟨rest, hrest⟩ := eqFs_spec (P := P) _ _ _ _ h
                have e0 : ks.drop acc.length = k1 ++ rest := by rw [hrest, List.append_assoc, List.drop_left]
                rw [e0] at hr
                obtain ⟨p, q, e1, e2, e3⟩ := eqCs_append _ _ _ _ _ hr
                have hsz : acc.length + k1.length ≤ ks.length := by rw [hrest]; simp
                obtain ⟨u, hfu⟩ := eqk_under hk1
                have hone : isAggB P f.type = false → P.cellsOf f.type = 1 := fun hz => by rw [← hlen]; exact eqk_one hk1 hz
                have hpx := run_part (w := w) f.type u hfu xs f.offset (by rw [hoff, ← hlen, hxs]; exact hsz) hone
                have hpy := run_part (w := w) f.type u hfu ys f.offset (by rw [hoff, ← hlen, hys]; exact hsz) hone
                have hcx := hx.extract f.offset (P.cellsOf f.type) (by rw [hoff, ← hlen, hxs]; exact hsz)
                have hcy := hy.extract f.offset (P.cellsOf f.type) (by rw [hoff, ← hlen, hys]; exact hsz)
                have heq := ih f.type k1 hk1 D hD' _ _ _ _ p hcx hcy (by simp; omega) (by simp; omega) (by
                  rw [hoff, ← hlen]; exact e1)
                have hnext := ihl (acc ++ k1) h q (by
                  rw [List.length_append, ← List.drop_drop, ← List.drop_drop, ← List.drop_drop, e0, List.drop_left]
                  exact e2)
                simp only [Op.eqFields]
                rw [if_pos hn]
                simp only [Sem.run_bind, hpx, hpy, Result.andThen_ok, heq]
                subst e3
                cases p
                · simp
                · simpa using hnext
              · cases h
            · cases h
        exact key fs.toList [] h r (by simpa using hr)
    · rename_i m e hu
      split at h
      · rename_i k1 hk1
        split at h
        · rename_i hlen
          simp only [Option.some.injEq] at h
          have hag : isAggB P t = true := by simp [isAggB, hu]
          obtain ⟨u, heu⟩ := eqk_under hk1
          obtain ⟨i, hi⟩ := info_of_underlying heu
          simp only [mkv, hag, if_true]
          rw [run_equalIn_array w D xs ys hu hi]
          have hksl : ks.length = m * k1.length := by rw [← h]; simp
          have hone : isAggB P e = false → P.cellsOf e = 1 := fun hz => by rw [← hlen]; exact eqk_one hk1 hz
          have key : ∀ (c j : Nat), j + c = m → ∀ r, eqCs (List.replicate c k1).flatten (cs.drop (j * k1.length)) (ds.drop (j * k1.length)) = some r →
              (Op.eqItems D e (P.cellsOf e) xs ys (List.range' j c)).run P w = .ok r w := by
            intro c
            induction c with
            | zero => intro j _ r hr; simp [eqCs] at hr; subst hr; simp [Op.eqItems]
            | succ c ihc =>
              intro j hj r hr
              simp only [List.replicate_succ, List.flatten_cons] at hr
              obtain ⟨p, q, e1, e2, e3⟩ := eqCs_append _ _ _ _ _ hr
              have hsz : j * k1.length + k1.length ≤ ks.length := by
                rw [hksl, ← Nat.succ_mul]; exact Nat.mul_le_mul_right _ (by omega)
              have hpx := run_part (w := w) e u heu xs (j * P.cellsOf e) (by rw [← hlen, hxs]; exact hsz) hone
              have hpy := run_part (w := w) e u heu ys (j * P.cellsOf e) (by rw [← hlen, hys]; exact hsz) hone
              have hcx := hx.extract (j * P.cellsOf e) (P.cellsOf e) (by rw [← hlen, hxs]; exact hsz)
              have hcy := hy.extract (j * P.cellsOf e) (P.cellsOf e) (by rw [← hlen, hys]; exact hsz)
              have heq := ih e k1 hk1 D hD' _ _ _ _ p hcx hcy (by simp; rw [← hlen]; omega) (by simp; rw [← hlen]; omega) (by rw [← hlen]; exact e1)
              have hnext := ihc (j + 1) (by omega) q (by
                rw [Nat.succ_mul, ← List.drop_drop, ← List.drop_drop]; exact e2)
              simp only [List.range'_succ, Op.eqItems, Sem.run_bind, hpx, hpy, Result.andThen_ok, heq]
              subst e3
              cases p
              · simp
              · simpa using hnext
          rw [List.range_eq_range']
          exact key m 0 (by omega) r (by rw [h]; simpa using hr)
        · cases h
      · cases h
    · cases h

end
end Go.Vl

/- Values without memory: the operations keep the relation: arithmetic, comparisons, parts, loads, addresses. -/
namespace Go.Vl
open Go Go.RowKit

section
variable {P : Program} {G : Gl} {tr : List Nat} {n : Nat} {I0 : Ft} {M : Mx} {w0 : World} {I : Ft} {β : Nat → Option Nat} {ob : Loc → Option Nat} {s : S} {a : Act} {w : World} {o : Oper}
  {next : Act → World → Prop} {Q : Exit → Act → World → Prop} {base : Nat → Prop} {v : Value} {x y : V} {K : V → Prop}

theorem vint_sound {op : BinOp} {k yk : IntKind} {a b : Int} {T : TypeId} (h : vint op k a b K) (hk : (op = .shl ∨ op = .shr) ∨ yk = k) :
    ∃ u, flat u = true ∧ K (.c (.lit u)) ∧ (binOp op T (.int k a) (.int yk b)).run P w = .ok u w := by
  by_cases hs : op = .shl ∨ op = .shr
  · rcases hs with rfl | rfl <;> simp only [vint] at h
    · exact ⟨_, rfl, h.2, by rw [binOp_shl]; simp [Op.shift, Int.not_lt.2 h.1]⟩
    · exact ⟨_, rfl, h.2, by rw [binOp_shr]; simp [Op.shift, Int.not_lt.2 h.1]⟩
  · have : yk = k := hk.resolve_left hs
    subst this
    cases op <;> simp only [vint] at h <;> simp only [reduceCtorEq, or_false, or_true, not_true_eq_false] at hs
    case add => exact ⟨_, rfl, h, by rw [binOp_add]; rfl⟩
    case sub => exact ⟨_, rfl, h, by rw [binOp_sub]; rfl⟩
    case mul => exact ⟨_, rfl, h, by rw [binOp_mul]; rfl⟩
    case quo => exact ⟨_, rfl, h.2, by rw [binOp_quo]; simp [Op.intDiv, h.1]⟩
    case rem => exact ⟨_, rfl, h.2, by rw [binOp_rem]; simp [Op.intDiv, h.1]⟩
    case and => exact ⟨_, rfl, h, by rw [binOp_and, intBits_and]; rfl⟩
    case or => exact ⟨_, rfl, h, by rw [binOp_or, intBits_or]; rfl⟩
    case xor => exact ⟨_, rfl, h, by rw [binOp_xor, intBits_xor]; rfl⟩
    case andNot => exact ⟨_, rfl, h, by rw [binOp_andNot, intBits_andNot]; rfl⟩
    case eql => exact ⟨_, rfl, h, by rw [binOp_eql]; rfl⟩
    case neq => exact ⟨_, rfl, h, by rw [binOp_neq]; rfl⟩
    case lss => exact ⟨_, rfl, h, by rw [binOp_lss]; rfl⟩
    case leq => exact ⟨_, rfl, h, by rw [binOp_leq]; rfl⟩
    case gtr => exact ⟨_, rfl, h, by rw [binOp_gtr]; rfl⟩
    case geq => exact ⟨_, rfl, h, by rw [binOp_geq]; rfl⟩

theorem vstr_sound {op : BinOp} {a b : ByteArray} {T : TypeId} (h : vstr op a b K) :
    ∃ u, flat u = true ∧ K (.c (.lit u)) ∧ (binOp op T (.string a) (.string b)).run P w = .ok u w := by
  have hb : binOp op T (.string a) (.string b) = Op.stringOp op a b := by cases op <;> rfl
  rw [hb]
  cases op <;> simp only [vstr] at h
  case add =>
    refine ⟨_, rfl, h.2, ?_⟩
    have : ¬ (((a.size + b.size : Nat) : Int) > IntKind.i64.max) := by simp; omega
    simp only [Op.stringOp, if_neg this]; rfl
  case eql => exact ⟨_, rfl, h, by simp only [Op.stringOp, beq_toList]; rfl⟩
  case neq => exact ⟨_, rfl, h, by simp only [Op.stringOp, beq_toList]; rfl⟩
  case lss => exact ⟨_, rfl, h, by simp only [Op.stringOp]; rfl⟩
  case leq => exact ⟨_, rfl, h, by simp only [Op.stringOp, beq_toList]; rfl⟩
  case gtr => exact ⟨_, rfl, h, by simp only [Op.stringOp, beq_toList]; rfl⟩
  case geq => exact ⟨_, rfl, h, by simp only [Op.stringOp]; rfl⟩

theorem vbin_sound {op : BinOp} {T : TypeId} {vx vy : Value} {ox oy : Option Nat} (h : vbin P op T x y K) (hx : LR base I β w ox vx x) (hy : LR base I β w oy vy y) (X Y : Operand) :
    ∃ u, flat u = true ∧ K (.c (.lit u)) ∧ (do eqGuard op T X Y vx vy; binOp op T vx vy : Sem Value).run P w = .ok u w := by
  unfold vbin at h
  split at h
  · rename_i k a k' b
    rw [hx.lit, hy.lit, eqGuard_at_int]
    simp only [Sem.run_bind, Sem.run_pure, Result.andThen_ok]
    split at h
    · exact vint_sound h (.inl (.inl rfl))
    · exact vint_sound h (.inl (.inr rfl))
    · split at h
      · rename_i hk; exact vint_sound h (.inr hk.symm)
      · exact h.elim
  · rw [hx.lit, hy.lit, eqGuard_at_string]
    simp only [Sem.run_bind, Sem.run_pure, Result.andThen_ok]
    exact vstr_sound h
  · rename_i a b
    rw [hx.lit, hy.lit, eqGuard_at_bool]
    simp only [Sem.run_bind, Sem.run_pure, Result.andThen_ok]
    split at h
    · rename_i i hi
      obtain ⟨j, d, h1, h2, h3, _⟩ := ti_spec hi
      have hd := kdOf_bool h3
      subst hd
      split at h
      · exact ⟨_, rfl, h, by simp [binOp, Op.equal, Op.maxDepth, run_equalIn_bool' w 9999 T _ _ h2]⟩
      · exact ⟨_, rfl, h, by simp [binOp, Op.equal, Op.maxDepth, run_equalIn_bool' w 9999 T _ _ h2]⟩
      · exact h.elim
    · exact h.elim
  · rename_i xs ys
    obtain ⟨vs, rfl, hxs, hx2⟩ := hx.agg
    obtain ⟨us, rfl, hys, hy2⟩ := hy.agg
    split at h
    · rename_i ks hi
      obtain ⟨j, d, h1, h2, _, _, _, hag, _, _, heqs, _⟩ := ti_spec hi
      simp only at hag heqs
      split at h
      · rename_i r hr
        obtain ⟨⟨hl1, hl2⟩, h⟩ := h
        split at heqs
        · cases heqs
        · rename_i hg
          have hg' : P.eqGuardType P.depth T = false := by simpa using hg
          have e1 := eqk_sound (w := w) 8 T ks heqs.symm 10000 (by omega) vs us xs ys r ⟨hxs, hx2⟩ ⟨hys, hy2⟩ (by omega) (by omega) hr
          have hv : ∀ z : Array Value, mkv P T z = .agg z := fun z => by simp [mkv, ← hag]
          rw [hv, hv] at e1
          simp only [Sem.run_bind, run_eqGuard_agg w op T X Y vs us hg', Result.andThen_ok]
          split at h
          · exact ⟨_, rfl, h, by rw [run_eql_struct, e1]; rfl⟩
          · exact ⟨_, rfl, h, by rw [run_neq_struct, e1]; rfl⟩
          · exact h.elim
      · exact h.elim
    · exact h.elim
  · exact h.elim

theorem vnil_sound {op : BinOp} {T : TypeId} {vx : Value} {ox : Option Nat} (h : vnil P op T x K) (hx : LR base I β w ox vx x) (X Y : Operand) :
    ∃ u, flat u = true ∧ K (.c (.lit u)) ∧ (do eqGuard op T X Y vx (.slice none 0 0); binOp op T vx (.slice none 0 0) : Sem Value).run P w = .ok u w := by
  unfold vnil at h
  split at h
  · rename_i e _ _ _ _ _ _ hi
    obtain ⟨j, d, h1, h2, h3, _⟩ := ti_spec hi
    have hd' := kdOf_slice h3
    subst hd'
    -- what it is, and what is known of it
    have key : ∀ Kb : Bool → Prop, vnilB x Kb → ∃ (a : Option Addr) (n c : Nat), vx = .slice a n c ∧ Kb a.isNone := by
      intro Kb h
      unfold vnilB at h
      split at h
      · rcases (hx.toC).sl_inv with ⟨_, h0⟩ | ⟨b, off, cap, _, _, hv, _⟩
        · cases h0
        · exact ⟨_, _, _, hv, h⟩
      · have hx' := hx.1
        rcases hx'.sl_inv with ⟨_, h0⟩ | ⟨b, off, cap, _, _, hv, _⟩
        · cases h0
        · exact ⟨_, _, _, hv, h⟩
      · simp only [LR] at hx
        obtain ⟨_, blk, off', cap', _, _, _, rfl⟩ := hx
        exact ⟨_, _, _, rfl, h⟩
      · rcases (hx.toC).sl_inv with ⟨⟨a, c, hv, _⟩, _⟩ | ⟨b, off, cap, _, _, hv, _⟩
        · exact ⟨_, _, _, hv, by cases a; exact h.1; exact h.2⟩
        · exact ⟨_, _, _, hv, h.2⟩
      · have hx' := hx.1
        rcases hx'.sl_inv with ⟨⟨a, c, hv, _⟩, _⟩ | ⟨b, off, cap, _, _, hv, _⟩
        · exact ⟨_, _, _, hv, by cases a; exact h.1; exact h.2⟩
        · exact ⟨_, _, _, hv, h.2⟩
      · exact h.elim
    have hg : ∀ (a : Option Addr) (n c : Nat), (eqGuard op T X Y (.slice a n c) (.slice none 0 0)).run P w = .ok () w := fun a n c => by
      unfold eqGuard
      split <;> rfl
    have heq : ∀ (d : Nat) (a : Option Addr) (n c : Nat), (Op.equalIn (d + 1) T (.slice a n c) (.slice none 0 0)).run P w = .ok a.isNone w := fun d a n c => by
      cases a <;> simp [Op.equalIn, run_underlying h2]
    split at h
    · obtain ⟨a, n, c, rfl, hK⟩ := key _ h
      refine ⟨_, rfl, hK, ?_⟩
      simp only [Sem.run_bind, hg, Result.andThen_ok]
      simp [binOp, Op.equal, Op.maxDepth, heq 9999]
    · obtain ⟨a, n, c, rfl, hK⟩ := key _ h
      refine ⟨_, rfl, hK, ?_⟩
      simp only [Sem.run_bind, hg, Result.andThen_ok]
      simp [binOp, Op.equal, Op.maxDepth, heq 9999]
    · exact h.elim
  · exact h.elim

theorem vun_sound {op : UnOp} {vx : Value} {ox : Option Nat} (h : vun op x K) (hx : LR base I β w ox vx x) : ∃ u, flat u = true ∧ K (.c (.lit u)) ∧ (Op.unary op vx).run P w = .ok u w := by
  unfold vun at h
  split at h
  · rw [hx.lit]; exact ⟨_, rfl, h, rfl⟩
  · rw [hx.lit]; exact ⟨_, rfl, h, by simp only [Op.unary, intBits_xor]; rfl⟩
  · rw [hx.lit]; exact ⟨_, rfl, h, rfl⟩
  · exact h.elim

theorem partV_sound {ag : Bool} {sz off : Nat} {cs : List C} {xs : Array Value} (h : partV ag sz off cs K) (hc : Cells I w xs cs) :
    ∃ z v, K z ∧ LR base I β w none v z ∧ ((ag = true ∧ off + sz ≤ xs.size ∧ v = .agg (xs.extract off (off + sz))) ∨ (ag = false ∧ xs[off]? = some v)) := by
  unfold partV at h
  split at h
  · rename_i hag
    have hle : off + sz ≤ xs.size := by rw [hc.1]; exact h.1
    have hx := hc.extract off sz hle
    exact ⟨_, _, h.2, by simp only [LR]; exact .agg _ _ hx.1 hx.2, .inl ⟨hag, hle, rfl⟩⟩
  · rename_i hag
    split at h
    · rename_i c hcc
      have hlt : off < xs.size := by rw [hc.1]; exact (List.getElem?_eq_some_iff.1 hcc).1
      exact ⟨_, xs.getD off undef, h, .ofC (hc.2 off c hcc), .inr ⟨by simpa using hag, by simp [Array.getElem?_eq_getElem hlt]⟩⟩
    · exact h.elim

theorem PR.toLR {u : Value} {z : V} (h : PR I β w u z) : LR base I β w none u z := by
  cases z <;> simp only [PR] at h <;> simp only [LR] <;> first | exact h | exact .c _ _ h | exact ⟨h.2.1, .inl ⟨rfl, h.1, h.2.2⟩⟩

theorem aggV_ok {cells : Array Value} {vs : List V} (hl : cells.size = vs.length) (h : ∀ j x, vs[j]? = some x → PR I β w (cells.getD j undef) x) : LR base I β w none (.agg cells) (aggV vs) := by
  unfold aggV
  split
  · rename_i cs hcs
    simp only [LR]
    refine .agg _ _ (by rw [hl]; exact (List.mapM_eq_some_length hcs).symm) fun j c hc => ?_
    obtain ⟨x, hx, hxc⟩ := List.mapM_eq_some_get hcs j c hc
    have := h j x hx
    cases x <;> simp only [V.asC] at hxc <;> try cases hxc
    · exact this
    · exact this.2.1
  · exact ⟨cells, rfl, hl, h⟩

theorem LR.toPR {o : Option Nat} {u : Value} {z : V} (h : LR base I β w o u z) (hp : z.isPO = true) : PR I β w u z.fz := by
  cases z <;> simp only [V.isPO] at hp <;> try cases hp
  · exact h.toC
  · exact h.1
  · exact h
  · exact h
  · exact h

theorem partM_sound {ag : Bool} {sz off : Nat} {vs : List V} {xs : Array Value} (h : partM ag sz off vs K) (hl : xs.size = vs.length) (hc : ∀ j x, vs[j]? = some x → PR I β w (xs.getD j undef) x) :
    ∃ z v, K z ∧ LR base I β w none v z ∧ ((ag = true ∧ off + sz ≤ xs.size ∧ v = .agg (xs.extract off (off + sz))) ∨ (ag = false ∧ xs[off]? = some v)) := by
  unfold partM at h
  split at h
  · rename_i hag
    have hle : off + sz ≤ xs.size := by rw [hl]; exact h.1
    refine ⟨_, _, h.2, aggV_ok ?_ fun j x hx => ?_, .inl ⟨hag, hle, rfl⟩⟩
    · simp only [Array.size_extract, List.length_take, List.length_drop]; omega
    · rw [List.getElem?_take] at hx
      split at hx
      · rename_i hj
        rw [List.getElem?_drop] at hx
        have := hc (off + j) x hx
        have e1 : (xs.extract off (off + sz)).getD j undef = xs.getD (off + j) undef := by
          rw [Array.getD_eq_getD_getElem?, Array.getElem?_extract, if_pos (by omega), ← Array.getD_eq_getD_getElem?]
        rw [e1]; exact this
      · cases hx
  · rename_i hag
    split at h
    · rename_i c hcc
      have hlt : off < xs.size := by rw [hl]; exact (List.getElem?_eq_some_iff.1 hcc).1
      exact ⟨_, xs.getD off undef, h, (hc off c hcc).toLR, .inr ⟨by simpa using hag, by simp [Array.getElem?_eq_getElem hlt]⟩⟩
    · exact h.elim

/-- Cells in memory that are there for good. -/
theorem rp_cells {b off : Nat} {cs : List C} {f : Nat → Value} (hc : ∀ j, j < cs.length → w.cell? ⟨b, off + j, none⟩ = some (f j) ∧ I b (off + j))
    (hr : ∀ j c, cs[j]? = some c → CR I w (f j) c) : Cells I w ((List.range cs.length).map f).toArray cs := by
  refine ⟨by simp, fun j c h => ?_⟩
  have hj := (List.getElem?_eq_some_iff.1 h).1
  have : ((List.range cs.length).map f).toArray.getD j undef = f j := by simp [hj]
  rw [this]; exact hr j c h

theorem run_loadVar_cells (T : TypeId) (d : TypeDesc) (hd : P.underlying T = some d) (b off : Nat) (f : Nat → Value) (m : Nat) (hm : m = P.cellsOf T)
    (hc : ∀ j, j < m → w.cell? ⟨b, off + j, none⟩ = some (f j)) (h1 : isAggB P T = false → 0 < m) :
    (loadVar T ⟨b, off, none⟩).run P w = .ok (if isAggB P T then .agg ((List.range m).map f).toArray else f 0) w := by
  obtain ⟨i, hi⟩ := info_of_underlying hd
  unfold loadVar
  simp only [Sem.run_bind, run_isAgg T d hd, Result.andThen_ok]
  cases hag : isAggB P T with
  | true =>
    simp only [if_true, Sem.run_bind, run_sizeOf w hi, Result.andThen_ok, ← hm]
    rw [run_loadCells w ⟨b, off, none⟩ m f (fun j hj => by rw [Addr.add_lit]; exact hc j hj)]
    rfl
  | false =>
    have := hc 0 (h1 hag)
    simp only [Nat.add_zero] at this
    simp [this]

theorem cellsOf_eq {T : TypeId} {j : TypeInfo} (h : P.info? T = some j) : P.cellsOf T = j.size := by simp [Program.cellsOf, h]

theorem vload_sound {T : TypeId} {vx : Value} {ox : Option Nat} (hst : St G n I0 M w0 I β ob s a w) (h : vload P T s x K) (hx : LR (Wr M w0) I β w ox vx x) :
    ∃ z u, K z ∧ LR (Wr M w0) I β w none u z ∧ (Instr.loadAt T vx).run P w = .ok u w := by
  unfold vload at h
  split at h
  · rename_i i cs k hi
    obtain ⟨j, d, h1, h2, _, hsz, _, hag, _⟩ := ti_spec hi
    have hcr := hx.toC
    generalize hrp : C.rp cs k = c at hcr
    cases hcr <;> cases hrp
    rename_i b off f hcell hrel
    have hcs := rp_cells hcell hrel
    obtain ⟨z, v, hz, hlr, hv⟩ := partV_sound (base := Wr M w0) (β := β) h hcs
    refine ⟨z, v, hz, hlr, ?_⟩
    simp only [Instr.loadAt, Instr.sureAddr, Sem.run_bind, Sem.run_pure, Result.andThen_ok]
    rcases hv with ⟨h3, h4, rfl⟩ | ⟨h3, h4⟩
    · simp at h4
      rw [run_loadVar_cells T d h2 b (off + k) (fun j => f (k + j)) i.size (by rw [hsz, cellsOf_eq h1]) (fun j hj => by rw [Nat.add_assoc]; exact (hcell (k + j) (by omega)).1) (fun hz => by rw [← hag, h3] at hz; cases hz), ← hag, h3]
      simp only [if_true]
      congr 2
      apply Array.ext'
      apply List.ext_getElem?
      intro q
      by_cases hq : q < i.size
      · simp [hq, List.getElem?_take, List.getElem?_drop, show k + q < cs.length from by omega]
      · simp [hq, List.getElem?_take]
    · have hk : k < cs.length := by
        have := (Array.getElem?_eq_some_iff.1 h4).1
        simpa using this
      have hvk : v = f k := by simp [hk] at h4; exact h4.symm
      unfold loadVar
      have := (hcell k hk).1
      simp [run_isAgg T d h2, ← hag, h3, this, hvk]
  · rename_i i b k hi
    obtain ⟨j, d, h1, h2, _, hsz, _, hag, _⟩ := ti_spec hi
    obtain ⟨⟨hb, hmb⟩, h⟩ := h
    obtain ⟨blk, cur, e1, e2, e3, e4, e5, e7⟩ := hst.bx b hb
    obtain ⟨TT, e3, e6⟩ := e3.cells hmb
    simp only [LR] at hx
    obtain ⟨blk', e1', rfl⟩ := hx
    rw [e1] at e1'
    cases e1'
    simp only [Instr.loadAt, Instr.sureAddr, Sem.run_bind, Sem.run_pure, Result.andThen_ok]
    have hcell : ∀ q, w.cell? ⟨blk, q, none⟩ = cur[q]? := fun q => cell_of_row w blk q cur TT (0, 0) e3
    split at h
    · rename_i hagt
      obtain ⟨⟨hlen, hall⟩, hK⟩ := h
      have hkl : k + i.size ≤ cur.size ∨ i.size = 0 := by
        have hlen' := hlen
        simp only [List.length_take, List.length_drop] at hlen'; omega
      refine ⟨_, .agg ((List.range i.size).map fun q => cur.getD (k + q) undef).toArray, hK, ?_, ?_⟩
      · refine aggV_ok (by simp only [List.size_toArray, List.length_map, List.length_range, hlen]) fun q x hx => ?_
        simp only [List.getElem?_map, Option.map_eq_some_iff] at hx
        obtain ⟨vv, hvv, rfl⟩ := hx
        have hq : q < i.size := by have := (List.getElem?_eq_some_iff.1 hvv).1; omega
        have hg : ((List.range i.size).map fun q => cur.getD (k + q) undef).toArray.getD q undef = cur.getD (k + q) undef := by simp [hq]
        rw [hg]
        have hpo := List.all_eq_true.1 hall vv (List.mem_of_getElem? hvv)
        have hbx : (s.bx b).getD (k + q) .un = vv := by
          rw [List.getElem?_take, if_pos hq, List.getElem?_drop] at hvv
          simp [List.getD, hvv]
        have := e5 (k + q)
        rw [hbx] at this
        exact this.toPR hpo
      · rw [run_loadVar_cells T d h2 blk k (fun q => cur.getD (k + q) undef) i.size (by rw [hsz, cellsOf_eq h1]) (fun q hq => ?_) (fun hz => by rw [← hag, hagt] at hz; cases hz), ← hag, hagt]
        · rfl
        · rw [hcell]
          rcases hkl with hkl | hkl
          · simp [Array.getElem?_eq_getElem (show k + q < cur.size by omega)]
          · omega
    · rename_i hagf
      split at h
      · rename_i vv hvv
        have hk : k < cur.size := Nat.lt_of_lt_of_le (List.getElem?_eq_some_iff.1 hvv).1 e4
        refine ⟨_, cur.getD k undef, h, ?_, ?_⟩
        · have := e5 k
          have hbx : (s.bx b).getD k .un = vv := by simp [List.getD, hvv]
          rw [hbx] at this
          exact this.fz none
        · unfold loadVar
          have hagf' : isAggB P T = false := by rw [← hag]; simpa using hagf
          simp [run_isAgg T d h2, hagf', hcell, Array.getElem?_eq_getElem hk]
      · exact h.elim
  · exact h.elim

theorem vloadZ_sound {T : TypeId} {vx : Value} {ox : Option Nat} (hst : St G n I0 M w0 I β ob s a w) (h : vloadZ P T s x K) (hx : LR (Wr M w0) I β w ox vx x) :
    ∃ z u, K z ∧ LR (Wr M w0) I β w none u z ∧ (Instr.loadAt T vx).run P w = .ok u w := by
  unfold vloadZ at h
  split at h
  · rename_i i b k hi
    obtain ⟨j, d, h1, h2, _, hsz, _, hag, _⟩ := ti_spec hi
    obtain ⟨⟨hb, hagf, hmb⟩, h⟩ := h
    obtain ⟨blk, cur, e1, e2, e3, e4, e5, e7⟩ := hst.bx b hb
    obtain ⟨TT, e3, e6⟩ := e3.cells hmb
    simp only [LR] at hx
    obtain ⟨blk', e1', rfl⟩ := hx
    rw [e1] at e1'
    cases e1'
    simp only [Instr.loadAt, Instr.sureAddr, Sem.run_bind, Sem.run_pure, Result.andThen_ok]
    have hcell : ∀ q, w.cell? ⟨blk, q, none⟩ = cur[q]? := fun q => cell_of_row w blk q cur TT (0, 0) e3
    split at h
    · rename_i es hvv
      have hk : k < cur.size := Nat.lt_of_lt_of_le (List.getElem?_eq_some_iff.1 hvv).1 e4
      refine ⟨_, cur.getD k undef, h, ?_, ?_⟩
      · have := e5 k
        have hbx : (s.bx b).getD k .un = .ow none es := by simp [List.getD, hvv]
        rw [hbx] at this
        obtain ⟨t1, t2⟩ := this
        refine ⟨t1, ?_⟩
        rcases t2 with t2 | ⟨_, _, _, _, _, _, hE, _⟩
        · exact .inl ⟨rfl, rfl, t2.2.2⟩
        · cases hE
      · unfold loadVar
        have hagf' : isAggB P T = false := by rw [← hag]; exact hagf
        simp [run_isAgg T d h2, hagf', hcell, Array.getElem?_eq_getElem hk]
    · exact h.elim
  · exact h.elim

end
end Go.Vl

/- Values without memory: the operations keep the relation: addresses, slices, conversions. -/
namespace Go.Vl
open Go Go.RowKit

section
variable {P : Program} {G : Gl} {tr : List Nat} {n : Nat} {I0 : Ft} {M : Mx} {w0 : World} {I : Ft} {β : Nat → Option Nat} {ob : Loc → Option Nat} {s : S} {a : Act} {w : World} {o : Oper}
  {next : Act → World → Prop} {Q : Exit → Act → World → Prop} {base : Nat → Prop} {v : Value} {x y : V} {K : V → Prop}

theorem run_fieldAt_plain (T : TypeId) (fs : Array Field) (hd : P.underlying T = some (.struct fs)) (blk off : Nat) (f : Nat) (g : Field) (hg : fs[f]? = some g) (hz : P.cellsOf g.type ≠ 0) :
    (Instr.fieldAt T (.pointer (some ⟨blk, off, none⟩)) f).run P w = .ok (.pointer (some ⟨blk, off + g.offset, none⟩)) w := by
  have hsz : (sizeOf g.type).run P w = .ok (P.cellsOf g.type) w := by
    cases hi : P.info? g.type with
    | none => simp [Program.cellsOf, hi] at hz
    | some i => exact run_sizeOf w hi
  unfold Instr.fieldAt
  simp only [Sem.run_bind, run_underlying hd, Result.andThen_ok, hg, Instr.sureAddr, Sem.run_pure]
  unfold fieldPlace
  simp only [Sem.run_bind, hsz, Result.andThen_ok, hz, if_false, Sem.run_pure, Addr.add_lit]

theorem flds_get {i : TI} {d : TypeDesc} {f off sz : Nat} {ag : Bool} (hok : fldsOk P d = true) (hfl : i.flds = fldsOf P d)
    (h : i.flds[f]? = some (off, sz, ag)) : ∃ fs g, d = .struct fs ∧ fs[f]? = some g ∧ off = g.offset ∧ sz = P.cellsOf g.type ∧ ag = isAggB P g.type ∧ ∃ d', P.underlying g.type = some d' := by
  rw [hfl] at h
  unfold fldsOf at h
  split at h
  · rename_i fs
    simp only [List.getElem?_map, Option.map_eq_some_iff] at h
    obtain ⟨g, hg, he⟩ := h
    simp only [Prod.mk.injEq] at he
    have := List.all_eq_true.1 hok g (List.mem_of_getElem? hg)
    exact ⟨fs, g, rfl, by rw [← hg]; simp, he.1.symm, he.2.1.symm, he.2.2.symm, Option.isSome_iff_exists.1 this⟩
  · simp at h

theorem vfieldAddr_sound {T : TypeId} {f : Nat} {vx : Value} {ox : Option Nat} (h : vfieldAddr P T x f K) (hx : LR base I β w ox vx x) :
    ∃ z u, K z ∧ LR base I β w none u z ∧ (Instr.fieldAt T vx f).run P w = .ok u w := by
  unfold vfieldAddr at h
  split at h
  · rename_i i hi
    obtain ⟨j, d, h1, h2, _, _, _, _, _, hfl, _, hok⟩ := ti_spec hi
    split at h
    · rename_i off sz ag cs k hfo
      obtain ⟨fs, g, rfl, hg, rfl, rfl, rfl, _⟩ := flds_get hok hfl hfo
      have hcr := hx.toC
      generalize hrp : C.rp cs k = c at hcr
      cases hcr <;> cases hrp
      rename_i b off' f' hcell hrel
      exact ⟨_, _, h.2, .ofC (by have := CR.rp (I := I) (w := w) b off' (k + g.offset) cs f' hcell hrel; exact this),
        by rw [run_fieldAt_plain T fs h2 b (off' + k) f g hg h.1, Nat.add_assoc]⟩
    · rename_i off sz ag b k hfo
      obtain ⟨fs, g, rfl, hg, rfl, rfl, rfl, _⟩ := flds_get hok hfl hfo
      simp only [LR] at hx
      obtain ⟨blk, e1, rfl⟩ := hx
      exact ⟨_, _, h.2, by simp only [LR]; exact ⟨blk, e1, rfl⟩, run_fieldAt_plain T fs h2 blk k f g hg h.1⟩
    · exact h.elim
  · exact h.elim

theorem run_part_of {t : TypeId} {d : TypeDesc} (hd : P.underlying t = some d) {xs : Array Value} {off sz : Nat} {ag : Bool} {v : Value} (hag : ag = isAggB P t) (hsz : sz = P.cellsOf t)
    (hv : (ag = true ∧ off + sz ≤ xs.size ∧ v = .agg (xs.extract off (off + sz))) ∨ (ag = false ∧ xs[off]? = some v)) : (part t xs off).run P w = .ok v w := by
  obtain ⟨i, hi⟩ := info_of_underlying hd
  unfold part
  simp only [Sem.run_bind, run_isAgg t d hd, Result.andThen_ok, ← hag]
  rcases hv with ⟨rfl, h2, rfl⟩ | ⟨rfl, h2⟩
  · simp [run_sizeOf w hi, hsz]
  · simp [h2]

theorem vfield_sound {T : TypeId} {f : Nat} {vx : Value} {ox : Option Nat} (h : vfield P T x f K) (hx : LR base I β w ox vx x) :
    ∃ z u, K z ∧ LR base I β w none u z ∧ (Instr.field T vx f).run P w = .ok u w := by
  unfold vfield at h
  split at h
  · rename_i i cs hi
    obtain ⟨j, d, h1, h2, _, _, _, _, _, hfl, _, hok⟩ := ti_spec hi
    obtain ⟨vs, rfl, hsz, hcs⟩ := hx.agg
    split at h
    · rename_i off sz ag hfo
      obtain ⟨fs, g, rfl, hg, rfl, rfl, rfl, d', hd'⟩ := flds_get hok hfl hfo
      obtain ⟨z, u, hz, hlr, hv⟩ := partV_sound (base := base) (β := β) h ⟨hsz, hcs⟩
      refine ⟨z, u, hz, hlr, ?_⟩
      unfold Instr.field
      simp only [Sem.run_bind, run_underlying h2, Result.andThen_ok, hg, asAgg, Sem.run_pure]
      exact run_part_of hd' rfl rfl hv
    · exact h.elim
  · rename_i i vs hi
    obtain ⟨j, d, h1, h2, _, _, _, _, _, hfl, _, hok⟩ := ti_spec hi
    simp only [LR] at hx
    obtain ⟨cells, rfl, hsz, hcs⟩ := hx
    split at h
    · rename_i off sz ag hfo
      obtain ⟨fs, g, rfl, hg, rfl, rfl, rfl, d', hd'⟩ := flds_get hok hfl hfo
      obtain ⟨z, u, hz, hlr, hv⟩ := partM_sound (base := base) (β := β) h hsz hcs
      refine ⟨z, u, hz, hlr, ?_⟩
      unfold Instr.field
      simp only [Sem.run_bind, run_underlying h2, Result.andThen_ok, hg, asAgg, Sem.run_pure]
      exact run_part_of hd' rfl rfl hv
    · exact h.elim
  · exact h.elim

theorem vindexAddr_sound {T : TypeId} {vx vi : Value} {ox oi : Option Nat} (h : vindexAddr P T x y K) (hx : LR base I β w ox vx x) (hy : LR base I β w oi vi y) :
    ∃ z u, K z ∧ LR base I β w none u z ∧ (Instr.indexAt T vx vi).run P w = .ok u w := by
  unfold vindexAddr at h
  split at h
  · rename_i e _ _ _ _ _ _ es k m hi
    obtain ⟨j, d, h1, h2, h3, _⟩ := ti_spec hi
    have hd := kdOf_slice h3
    subst hd
    rw [hy.lit]
    split at h
    · rename_i je hje
      obtain ⟨j', d', h1', h2', _, hsz', _⟩ := ti_spec hje
      obtain ⟨⟨hm, hz0⟩, h⟩ := h
      split at h
      · rename_i c hc
        obtain ⟨hcl, h⟩ := h
        have hcr := hx.toC
        have hlt := (List.getElem?_eq_some_iff.1 hc).1
        generalize hsl : C.sl es = cc at hcr
        cases hcr <;> cases hsl
        · simp at hlt
        · rename_i b off cap sz f hcap hs hcell hrel
          have hsz : sz = je.size := by rw [← hs c (List.mem_of_getElem? hc), hcl]
          subst hsz
          have hrp : CR I w (.pointer (some ⟨b, off + m.toNat * je.size + 0, none⟩)) (.rp c 0) :=
            .rp b (off + m.toNat * je.size) 0 c (fun q => f m.toNat q) (fun q hq => hcell _ _ hlt (by omega)) (fun q cq hq => hrel _ _ c cq hc hq)
          refine ⟨_, _, h, .ofC hrp, ?_⟩
          unfold Instr.indexAt
          have hin : 0 ≤ m ∧ m < (es.length : Int) := ⟨hm, by omega⟩
          simp only [asIntOf, Sem.run_bind, Sem.run_pure, Result.andThen_ok, run_underlying h2]
          rw [if_pos hin]
          simp [run_sizeOf w h1', cellsOf_eq h1', hsz', Addr.add_lit]
      · exact h.elim
    · exact h.elim
  · rename_i mm e _ _ _ _ _ _ cs k ki m hi
    obtain ⟨j, d, h1, h2, h3, _⟩ := ti_spec hi
    have hd := kdOf_arr h3
    subst hd
    rw [hy.lit]
    split at h
    · rename_i je hje
      obtain ⟨j', d', h1', h2', _, hsz', _⟩ := ti_spec hje
      obtain ⟨hin, h⟩ := h
      have hcr := hx.toC
      generalize hrp : C.rp cs k = c at hcr
      cases hcr <;> cases hrp
      rename_i b off f hcell hrel
      refine ⟨_, _, h, .ofC (CR.rp b off (k + m.toNat * je.size) cs f hcell hrel), ?_⟩
      unfold Instr.indexAt
      simp only [asIntOf, Sem.run_bind, Sem.run_pure, Result.andThen_ok, run_underlying h2, Instr.sureAddr]
      rw [if_pos hin]
      simp [run_sizeOf w h1', cellsOf_eq h1', hsz', Addr.add_lit, Nat.add_assoc]
    · exact h.elim
  · rename_i e _ _ _ _ _ _ b off len cap sz ki m hi
    obtain ⟨j, d, h1, h2, h3, _⟩ := ti_spec hi
    have hd := kdOf_slice h3
    subst hd
    rw [hy.lit]
    split at h
    · rename_i je hje
      obtain ⟨j', d', h1', h2', _, hsz', _⟩ := ti_spec hje
      obtain ⟨⟨hm, hml, hje2, hz0⟩, h⟩ := h
      simp only [LR] at hx
      obtain ⟨hcap, blk, off', cap', hcc, e1, hoff, rfl⟩ := hx
      have hoff : off' = off := by rcases hoff with h0 | h0; omega; exact h0
      subst hoff
      refine ⟨_, _, h, by simp only [LR]; exact ⟨blk, e1, rfl⟩, ?_⟩
      unfold Instr.indexAt
      have hin : 0 ≤ m ∧ m < (len : Int) := ⟨hm, hml⟩
      simp only [asIntOf, Sem.run_bind, Sem.run_pure, Result.andThen_ok, run_underlying h2]
      rw [if_pos hin]
      simp [run_sizeOf w h1', cellsOf_eq h1', ← hsz', hje2, Addr.add_lit]
    · exact h.elim
  · rename_i mm e _ _ _ _ _ _ b k ki m hi
    obtain ⟨j, d, h1, h2, h3, _⟩ := ti_spec hi
    have hd := kdOf_arr h3
    subst hd
    rw [hy.lit]
    split at h
    · rename_i je hje
      obtain ⟨j', d', h1', h2', _, hsz', _⟩ := ti_spec hje
      obtain ⟨hin, h⟩ := h
      simp only [LR] at hx
      obtain ⟨blk, e1, rfl⟩ := hx
      refine ⟨_, _, h, by simp only [LR]; exact ⟨blk, e1, rfl⟩, ?_⟩
      unfold Instr.indexAt
      simp only [asIntOf, Sem.run_bind, Sem.run_pure, Result.andThen_ok, run_underlying h2, Instr.sureAddr]
      rw [if_pos hin]
      simp [run_sizeOf w h1', cellsOf_eq h1', hsz', Addr.add_lit]
    · exact h.elim
  · exact h.elim

theorem vindex_sound {T : TypeId} {vx vi : Value} {ox oi : Option Nat} (h : vindex P T x y K) (hx : LR base I β w ox vx x) (hy : LR base I β w oi vi y) :
    ∃ z u, K z ∧ LR base I β w none u z ∧ (Instr.index T vx vi).run P w = .ok u w := by
  unfold vindex at h
  split at h
  · rename_i _ _ _ _ _ _ st k m hi
    obtain ⟨j, d, h1, h2, h3, _⟩ := ti_spec hi
    have hd := kdOf_str h3
    subst hd
    rw [hx.lit, hy.lit]
    obtain ⟨hm, h⟩ := h
    split at h
    · rename_i b hb
      refine ⟨_, _, h, .ofLit rfl, ?_⟩
      have hlt : m.toNat < st.size := (Array.getElem?_eq_some_iff.1 hb).1
      have hin : 0 ≤ m ∧ m < (st.size : Int) := ⟨hm, by omega⟩
      rw [run_index_string w T st k m h2, dif_pos hin]
      have : st[m.toNat] = b := (Array.getElem?_eq_some_iff.1 hb).2
      rw [this]
    · exact h.elim
  · rename_i mm e _ _ _ _ _ _ cs k m hi
    obtain ⟨j, d, h1, h2, h3, _⟩ := ti_spec hi
    have hd := kdOf_arr h3
    subst hd
    rw [hy.lit]
    obtain ⟨vs, rfl, hsz, hcs⟩ := hx.agg
    split at h
    · rename_i je hje
      obtain ⟨j', d', h1', h2', _, hsz', _, hag', _⟩ := ti_spec hje
      obtain ⟨hin, h⟩ := h
      obtain ⟨z, u, hz, hlr, hv⟩ := partV_sound (base := base) (β := β) h ⟨hsz, hcs⟩
      refine ⟨z, u, hz, hlr, ?_⟩
      unfold Instr.index
      simp only [asIntOf, Sem.run_bind, Sem.run_pure, Result.andThen_ok, run_underlying h2]
      rw [if_pos hin]
      simp only [Sem.run_bind, run_sizeOf w h1', Result.andThen_ok, cellsOf_eq h1', ← hsz']
      exact run_part_of h2' hag' (by rw [cellsOf_eq h1', hsz']) hv
    · exact h.elim
  · exact h.elim

theorem vlen_sound {T ty : TypeId} {vx : Value} {ox : Option Nat} (h : vlen P T x K) (hx : LR base I β w ox vx x) :
    ∃ u, flat u = true ∧ K (.c (.lit u)) ∧ (Builtin.len_ #[T] ty #[vx]).run P w = .ok u w := by
  unfold vlen at h
  split at h
  · rename_i hi
    obtain ⟨j, d, h1, h2, h3, _⟩ := ti_spec hi
    have hd := kdOf_str h3
    subst hd
    rw [hx.lit]
    exact ⟨_, rfl, h, run_len_string w T ty _ h2⟩
  · rename_i e _ _ _ _ _ _ es hi
    obtain ⟨j, d, h1, h2, h3, _⟩ := ti_spec hi
    have hd := kdOf_slice h3
    subst hd
    refine ⟨_, rfl, h, ?_⟩
    have hcr := hx.toC
    generalize hsl : C.sl es = cc at hcr
    cases hcr <;> cases hsl <;> simp [Builtin.len_, run_underlying h2, goInt]
  · rename_i e _ _ _ _ _ _ E es hi
    obtain ⟨j, d, h1, h2, h3, _⟩ := ti_spec hi
    have hd := kdOf_slice h3
    subst hd
    refine ⟨_, rfl, h, ?_⟩
    have hcr := hx.1
    generalize hsl : C.sl es = cc at hcr
    cases hcr <;> cases hsl <;> simp [Builtin.len_, run_underlying h2, goInt]
  · rename_i e _ _ _ _ _ _ b off len cap sz hi
    obtain ⟨j, d, h1, h2, h3, _⟩ := ti_spec hi
    have hd := kdOf_slice h3
    subst hd
    simp only [LR] at hx
    obtain ⟨hcap, blk, off', cap', hcc, e1, hoff, rfl⟩ := hx
    refine ⟨_, rfl, h, by simp [Builtin.len_, run_underlying h2, goInt]⟩
  · rename_i m e _ _ _ _ _ _ hi
    obtain ⟨j, d, h1, h2, h3, _⟩ := ti_spec hi
    have hd := kdOf_arr h3
    subst hd
    refine ⟨_, rfl, h, by simp [Builtin.len_, run_underlying h2, goInt]⟩
  · exact h.elim

/-- What a slice holds, for the while. -/
def RD (I : Ft) (w : World) (v : Value) (es : List (List C)) : Prop := ((∃ (a : Option Addr) (cap : Nat), v = .slice a 0 cap ∧ (a = none → cap = 0)) ∧ es = []) ∨
    ∃ (b off cap sz : Nat) (f : Nat → Nat → Value), v = .slice (some ⟨b, off, none⟩) es.length cap ∧ es.length ≤ cap ∧ (∀ e ∈ es, e.length = sz) ∧
      (∀ i j, i < es.length → j < sz → w.cell? ⟨b, off + i * sz + j, none⟩ = some (f i j)) ∧
      (∀ i j e c, es[i]? = some e → e[j]? = some c → CR I w (f i j) c)

theorem RD.ofCR {v : Value} {es : List (List C)} (h : CR I w v (.sl es)) : RD I w v es := by
  rcases h.sl_inv with h | ⟨b, off, cap, sz, f, h1, h2, h3, h4, h5⟩
  · exact .inl h
  · exact .inr ⟨b, off, cap, sz, f, h1, h2, h3, fun i j hi hj => (h4 i j hi hj).1, h5⟩

theorem CR.subslice {b off cap : Nat} {es : List (List C)} {l h' m sz : Nat} (h : CR I w (.slice (some ⟨b, off, none⟩) es.length cap) (.sl es)) (hs : ∀ x ∈ es, x.length = sz)
    (h1 : l ≤ h') (h2 : h' ≤ es.length) (h3 : h' ≤ m) : CR I w (.slice (some ⟨b, off + l * sz, none⟩) (h' - l) (m - l)) (.sl ((es.take h').drop l)) := by
  rcases h.sl_inv with ⟨_, rfl⟩ | ⟨b', off', cap', sz', f, hv, hcap, hs', hcell, hrel⟩
  · have e1 : h' - l = 0 := by simp only [List.length_nil] at h2; omega
    rw [e1]
    simpa using CR.nil (I := I) (w := w) (some ⟨b, off + l * sz, none⟩) (m - l) (fun h => by cases h)
  simp only [Value.slice.injEq, Option.some.injEq, Addr.mk.injEq, and_true, true_and] at hv
  obtain ⟨⟨rfl, rfl⟩, rfl⟩ := hv
  have hlen : ((es.take h').drop l).length = h' - l := by simp; omega
  have hgot : ∀ i e, ((es.take h').drop l)[i]? = some e → es[l + i]? = some e := fun i e he => by
    rw [List.getElem?_drop, List.getElem?_take] at he
    split at he
    · exact he
    · cases he
  by_cases hemp : h' - l = 0
  · have : (es.take h').drop l = [] := List.eq_nil_of_length_eq_zero (by omega)
    rw [this, hemp]
    exact .sl b _ _ 0 [] (fun _ _ => undef) (Nat.zero_le _) (by simp) (by simp) (by simp)
  · have hsz : sz' = sz := by
      have : 0 < es.length := by omega
      rw [← hs' es[0] (List.getElem_mem _), hs es[0] (List.getElem_mem _)]
    subst hsz
    rw [← hlen]
    refine .sl b _ _ sz' _ (fun i j => f (l + i) j) (by omega) (fun e he => hs e (List.mem_of_mem_take (List.mem_of_mem_drop he))) (fun i j hi hj => ?_) (fun i j e c he hc => hrel _ _ e c (hgot i e he) hc)
    have := hcell (l + i) j (by omega) hj
    rw [Nat.add_mul, ← Nat.add_assoc] at this
    exact this

theorem optInt_sound {d : Int} {ov : Option V} {oo : Option Value} {l : Int} (h : optInt d ov = some l) (hr : ∀ x, ov = some x → ∃ vv, oo = some vv ∧ LR base I β w none vv x.fz ∧ x.fz = x) (hn : ov = none → oo = none) :
    (oo = none ∧ l = d) ∨ ∃ k, oo = some (.int k l) := by
  unfold optInt at h
  split at h
  · exact .inl ⟨hn rfl, by simpa using h.symm⟩
  · rename_i k m
    obtain ⟨vv, h1, h2, _⟩ := hr _ rfl
    simp only [Option.some.injEq] at h
    subst h
    exact .inr ⟨k, by rw [h1, LR.lit h2]⟩
  · cases h

end
end Go.Vl

/- Values without memory: the operations keep the relation: struct and slice literals, append. -/
namespace Go.Vl
open Go Go.RowKit

section
variable {P : Program} {G : Gl} {tr : List Nat} {n : Nat} {I0 : Ft} {M : Mx} {w0 : World} {I : Ft} {β : Nat → Option Nat} {ob : Loc → Option Nat} {s : S} {a : Act} {w : World} {o : Oper}
  {next : Act → World → Prop} {Q : Exit → Act → World → Prop} {base : Nat → Prop} {v : Value} {x y : V} {K : V → Prop}

theorem zc_ok {v : Value} {c : C} (h : zc v = some c) : CR I w v c := by
  unfold zc at h
  split at h
  · simp only [Option.some.injEq] at h; subst h; exact .nil none 0 (fun _ => rfl)
  · split at h
    · simp only [Option.some.injEq] at h; subst h; exact .lit _ ‹_›
    · cases h

theorem zero_ok {z : Value} {zs : List C} (h : z.cells.toList.mapM zc = some zs) : Cells I w z.cells zs := by
  refine ⟨by have := List.mapM_eq_some_length h; simpa using this.symm, fun j c hc => ?_⟩
  obtain ⟨u, hu, hz⟩ := List.mapM_eq_some_get h j c hc
  have : z.cells.getD j undef = u := by
    rw [Array.getElem?_toList] at hu
    simp [hu]
  rw [this]; exact zc_ok hz

/-- What the parts of a literal are. -/
theorem cs_ok {ox : Option Nat} (h : LR base I β w ox v x) {ds : List C} (hx : x.cs = some ds) : Cells I w v.cells ds := by
  cases x <;> simp only [V.cs] at hx <;> try cases hx
  · have := h.toC
    rw [this.notAgg]
    refine ⟨rfl, fun j c hc => ?_⟩
    cases j with
    | zero => simp at hc; subst hc; exact this
    | succ j => simp at hc
  · obtain ⟨vs, rfl, h1, h2⟩ := h.agg
    exact ⟨h1, h2⟩
  · have := h.1
    rw [this.notAgg]
    refine ⟨rfl, fun j c hc => ?_⟩
    cases j with
    | zero => simp at hc; subst hc; exact this
    | succ j => simp at hc

theorem foldl_set (off : Nat) : ∀ (l : List Value) (k : Nat) (cs : Array Value), off + k + l.length ≤ cs.size →
    ((l.zipIdx k).foldl (fun cs (p : Value × Nat) => cs.setIfInBounds (off + p.2) p.1) cs).size = cs.size ∧
    ∀ j, ((l.zipIdx k).foldl (fun cs (p : Value × Nat) => cs.setIfInBounds (off + p.2) p.1) cs).getD j undef =
      if off + k ≤ j ∧ j < off + k + l.length then l.getD (j - (off + k)) undef else cs.getD j undef
  | [], k, cs, _ => ⟨rfl, fun j => by rw [if_neg (by simp)]; rfl⟩
  | v :: l, k, cs, h => by
    simp only [List.zipIdx_cons, List.foldl_cons]
    simp only [List.length_cons] at h
    obtain ⟨h1, h2⟩ := foldl_set off l (k + 1) (cs.setIfInBounds (off + k) v) (by simp; omega)
    refine ⟨by rw [h1]; simp, fun j => ?_⟩
    rw [h2 j]
    by_cases hj : off + (k + 1) ≤ j ∧ j < off + (k + 1) + l.length
    · rw [if_pos hj, if_pos (by simp only [List.length_cons]; omega)]
      have : j - (off + k) = (j - (off + (k + 1))) + 1 := by omega
      rw [this]; rfl
    · rw [if_neg hj]
      by_cases hjk : j = off + k
      · subst hjk
        rw [if_pos (by simp only [List.length_cons]; omega), getD_set_same _ _ _ (by omega)]
        simp
      · rw [if_neg (by simp only [List.length_cons]; omega), getD_set_ne _ _ _ _ hjk]

theorem setAt_get {cs ds : List C} {off : Nat} (h : off + ds.length ≤ cs.length) (j : Nat) :
    (setAt cs off ds)[j]? = if off ≤ j ∧ j < off + ds.length then ds[j - off]? else cs[j]? := by
  unfold setAt
  have hto : (cs.take off).length = off := by simp; omega
  by_cases h1 : j < off
  · rw [if_neg (by omega), List.append_assoc, List.getElem?_append_left (by omega), List.getElem?_take, if_pos h1]
  · by_cases h2 : j < off + ds.length
    · rw [if_pos (by omega), List.append_assoc, List.getElem?_append_right (by omega), hto, List.getElem?_append_left (by omega)]
    · rw [if_neg (by omega), List.getElem?_append_right (by simp; omega), List.getElem?_drop]
      congr 1
      simp; omega

theorem setAt_length {cs ds : List C} {off : Nat} (h : off + ds.length ≤ cs.length) : (setAt cs off ds).length = cs.length := by
  simp [setAt]; omega

theorem fill_step {cells : Array Value} {cs ds : List C} {off : Nat} (hc : Cells I w cells cs) (hd : Cells I w v.cells ds) (h : off + ds.length ≤ cs.length) :
    Cells I w (v.cells.zipIdx.foldl (fun cs (p : Value × Nat) => cs.setIfInBounds (off + p.2) p.1) cells) (setAt cs off ds) := by
  have hvs : v.cells.size = ds.length := hd.1
  have hcs : cells.size = cs.length := hc.1
  rw [← Array.foldl_toList, Array.toList_zipIdx]
  obtain ⟨h1, h2⟩ := foldl_set off v.cells.toList 0 cells (by simp; omega)
  refine ⟨by rw [h1, setAt_length h]; exact hcs, fun j c hj => ?_⟩
  rw [setAt_get h] at hj
  rw [h2 j]
  simp only [Nat.add_zero, Array.length_toList, hvs]
  split at hj
  · rename_i hr
    rw [if_pos hr]
    have := hd.2 _ c hj
    simpa [Array.getD_eq_getD_getElem?, List.getD_eq_getElem?_getD] using this
  · rename_i hr
    rw [if_neg hr]
    exact hc.2 j c hj

/-- Parts, as values and as what they are. -/
def Parts (base : Nat → Prop) (I : Ft) (β : Nat → Option Nat) (w : World) : List (Nat × Value) → List (Nat × V) → Prop
  | [], [] => True
  | (i, v) :: r, (j, x) :: q => i = j ∧ (∃ ox, LR base I β w ox v x) ∧ Parts base I β w r q
  | _, _ => False

theorem fillS_ok (flds : List (Nat × Nat × Bool)) (place : Nat → Option (Nat × Nat)) (hp : ∀ i off sz ag, flds[i]? = some (off, sz, ag) → place i = some (off, sz)) :
    ∀ (vs : List (Nat × Value)) (xs : List (Nat × V)) (cells : Array Value) (cs cs' : List C), Parts base I β w vs xs → Cells I w cells cs → fillS flds xs cs = some cs' →
      ∃ cells', Instr.fill place cells vs = some cells' ∧ Cells I w cells' cs'
  | [], [], cells, cs, cs', _, hc, h => ⟨cells, rfl, by simp only [fillS, Option.some.injEq] at h; subst h; exact hc⟩
  | (i, v) :: vs, (j, x) :: xs, cells, cs, cs', hps, hc, h => by
    obtain ⟨rfl, ⟨ox, hx⟩, hps⟩ := hps
    simp only [fillS] at h
    split at h
    · rename_i off sz ag ds hf hds
      split at h
      · rename_i hlen
        have hd := cs_ok hx hds
        have hpl := hp _ _ _ _ hf
        obtain ⟨cells', e1, e2⟩ := fillS_ok flds place hp vs xs _ _ cs' hps (fill_step hc hd (by omega)) h
        refine ⟨cells', ?_, e2⟩
        have h1 : v.cells.size = sz := by rw [hd.1]; exact hlen.1
        have h2 : cells.size = cs.length := hc.1
        simp only [Instr.fill, hpl]
        rw [if_neg (by simp [h1, h2]; omega)]
        exact e1
      · cases h
    · cases h
  | [], _ :: _, _, _, _, hps, _, _ => hps.elim
  | _ :: _, [], _, _, _, hps, _, _ => hps.elim

/-- Cells that may lead into boxes. -/
def PCells (I : Ft) (β : Nat → Option Nat) (w : World) (cells : Array Value) (vs : List V) : Prop := cells.size = vs.length ∧ ∀ j x, vs[j]? = some x → PR I β w (cells.getD j undef) x

theorem Cells.toP {cells : Array Value} {cs : List C} (h : Cells I w cells cs) : PCells I β w cells (cs.map .c) := by
  refine ⟨by rw [List.length_map]; exact h.1, fun j x hx => ?_⟩
  simp only [List.getElem?_map, Option.map_eq_some_iff] at hx
  obtain ⟨c, hc, rfl⟩ := hx
  simp only [PR]; exact h.2 j c hc

theorem ps_ok {ox : Option Nat} (h : LR base I β w ox v x) {ds : List V} (hx : x.ps = some ds) : PCells I β w v.cells ds := by
  have one : ∀ c : V, ds = [c] → v.cells = #[v] → PR I β w v c → PCells I β w v.cells ds := by
    rintro c rfl hc hp
    rw [hc]
    refine ⟨rfl, fun j y hy => ?_⟩
    cases j with
    | zero => simp at hy; subst hy; exact hp
    | succ j => simp at hy
  cases x <;> simp only [V.ps] at hx <;> try cases hx
  · have := h.toC
    exact one _ rfl this.notAgg (by simp only [PR]; exact this)
  · rename_i cs
    obtain ⟨vs, rfl, h1, h2⟩ := h.agg
    exact Cells.toP ⟨h1, h2⟩
  · have := h.1
    exact one _ rfl this.notAgg (by simp only [PR]; exact this)
  · have h' := h
    simp only [LR] at h
    obtain ⟨blk, e1, rfl⟩ := h
    exact one _ rfl rfl (by simp only [PR]; exact ⟨blk, e1, rfl⟩)
  · simp only [LR] at h
    obtain ⟨h0, blk, o', c', hc, e1, e2, rfl⟩ := h
    exact one _ rfl rfl (by simp only [PR]; exact ⟨h0, blk, o', c', hc, e1, e2, rfl⟩)
  · simp only [LR] at h
    obtain ⟨cells, rfl, h1, h2⟩ := h
    exact ⟨h1, h2⟩
  · simp only [LR] at h
    obtain ⟨blk, e1, rfl⟩ := h
    exact one _ rfl rfl (by simp only [PR]; exact ⟨blk, e1, rfl⟩)

theorem setP_get {cs ds : List V} {off : Nat} (h : off + ds.length ≤ cs.length) (j : Nat) :
    (setP cs off ds)[j]? = if off ≤ j ∧ j < off + ds.length then ds[j - off]? else cs[j]? := by
  unfold setP
  have hto : (cs.take off).length = off := by simp; omega
  by_cases h1 : j < off
  · rw [if_neg (by omega), List.append_assoc, List.getElem?_append_left (by omega), List.getElem?_take, if_pos h1]
  · by_cases h2 : j < off + ds.length
    · rw [if_pos (by omega), List.append_assoc, List.getElem?_append_right (by omega), hto, List.getElem?_append_left (by omega)]
    · rw [if_neg (by omega), List.getElem?_append_right (by simp; omega), List.getElem?_drop]
      congr 1
      simp; omega

theorem fillP_step {cells : Array Value} {cs ds : List V} {off : Nat} (hc : PCells I β w cells cs) (hd : PCells I β w v.cells ds) (h : off + ds.length ≤ cs.length) :
    PCells I β w (v.cells.zipIdx.foldl (fun cs (p : Value × Nat) => cs.setIfInBounds (off + p.2) p.1) cells) (setP cs off ds) := by
  have hvs : v.cells.size = ds.length := hd.1
  have hcs : cells.size = cs.length := hc.1
  rw [← Array.foldl_toList, Array.toList_zipIdx]
  obtain ⟨h1, h2⟩ := foldl_set off v.cells.toList 0 cells (by simp; omega)
  refine ⟨by rw [h1]; simp [setP]; omega, fun j c hj => ?_⟩
  rw [setP_get h] at hj
  rw [h2 j]
  simp only [Nat.add_zero, Array.length_toList, hvs]
  split at hj
  · rename_i hr
    rw [if_pos hr]
    have := hd.2 _ c hj
    simpa [Array.getD_eq_getD_getElem?, List.getD_eq_getElem?_getD] using this
  · rename_i hr
    rw [if_neg hr]
    exact hc.2 j c hj

theorem fillM_ok (flds : List (Nat × Nat × Bool)) (place : Nat → Option (Nat × Nat)) (hp : ∀ i off sz ag, flds[i]? = some (off, sz, ag) → place i = some (off, sz)) :
    ∀ (vs : List (Nat × Value)) (xs : List (Nat × V)) (cells : Array Value) (cs cs' : List V), Parts base I β w vs xs → PCells I β w cells cs → fillM flds xs cs = some cs' →
      ∃ cells', Instr.fill place cells vs = some cells' ∧ PCells I β w cells' cs'
  | [], [], cells, cs, cs', _, hc, h => ⟨cells, rfl, by simp only [fillM, Option.some.injEq] at h; subst h; exact hc⟩
  | (i, v) :: vs, (j, x) :: xs, cells, cs, cs', hps, hc, h => by
    obtain ⟨rfl, ⟨ox, hx⟩, hps⟩ := hps
    simp only [fillM] at h
    split at h
    · rename_i off sz ag ds hf hds
      split at h
      · rename_i hlen
        have hd := ps_ok hx hds
        have hpl := hp _ _ _ _ hf
        obtain ⟨cells', e1, e2⟩ := fillM_ok flds place hp vs xs _ _ cs' hps (fillP_step hc hd (by omega)) h
        refine ⟨cells', ?_, e2⟩
        have h1 : v.cells.size = sz := by rw [hd.1]; exact hlen.1
        have h2 : cells.size = cs.length := hc.1
        simp only [Instr.fill, hpl]
        rw [if_neg (by simp [h1, h2]; omega)]
        exact e1
      · cases h
    · cases h
  | [], _ :: _, _, _, _, hps, _, _ => hps.elim
  | _ :: _, [], _, _, _, hps, _, _ => hps.elim

theorem parts_ok (hst : St G n I0 M w0 I β ob s a w) : ∀ (l : List (Nat × Operand)), Parts (Wr M w0) I β w (l.map fun (i, x) => (i, a.eval x)) (l.map fun (i, x) => (i, ev G s x))
  | [] => trivial
  | (_, x) :: l => ⟨rfl, ⟨_, ev_sound hst x⟩, parts_ok hst l⟩

theorem vbuild_sound {T : TypeId} {parts : Array (Nat × Operand)} (hst : St G n I0 M w0 I β ob s a w) (h : vbuild P T (parts.toList.map fun (i, x) => (i, ev G s x)) K) :
    ∃ z u, K z ∧ LR (Wr M w0) I β w none u z ∧ (Instr.build T (parts.map fun (i, x) => (i, a.eval x))).run P w = .ok u w := by
  unfold vbuild at h
  split at h
  · rename_i z flds _ hi
    obtain ⟨j, d, h1, h2, h3, _, _, _, hz, hfl, _, hok⟩ := ti_spec hi
    obtain ⟨fs, rfl⟩ := kdOf_struct h3
    simp only at hz hfl
    split at hz
    · rename_i zv hzv
      have hplaces : ∃ places : List (Nat × Nat), fs.toList.mapM (fun f => (P.info? f.type).map fun i => (f.offset, i.size)) = some places ∧
          ∀ (i off sz : Nat) (ag : Bool), flds[i]? = some (off, sz, ag) → places[i]? = some (off, sz) := by
        subst hfl
        simp only [fldsOf]
        have : ∀ l : List Field, (∀ f ∈ l, ∃ d, P.underlying f.type = some d) → l.mapM (fun f => (P.info? f.type).map fun i => (f.offset, i.size)) = some (l.map fun f => (f.offset, P.cellsOf f.type)) := by
          intro l
          induction l with
          | nil => intro _; simp
          | cons f l ih =>
            intro hl
            obtain ⟨d, hd⟩ := hl f (by simp)
            obtain ⟨i, hi⟩ := info_of_underlying hd
            have := ih (fun g hg => hl g (by simp [hg]))
            simp [List.mapM_cons, hi, this, cellsOf_eq hi]
        refine ⟨_, this fs.toList (fun f hf => Option.isSome_iff_exists.1 (List.all_eq_true.1 hok f hf)), fun i off sz ag hf => ?_⟩
        simp only [List.getElem?_map, Option.map_eq_some_iff] at hf ⊢
        obtain ⟨g, hg, he⟩ := hf
        simp only [Prod.mk.injEq] at he
        exact ⟨g, hg, by rw [he.1, he.2.1]⟩
      obtain ⟨places, hp1, hp2⟩ := hplaces
      split at h
      · rename_i cs hcs
        obtain ⟨cells, e1, e2⟩ := fillS_ok flds (fun i => places[i]?) hp2 _ _ _ _ cs (parts_ok hst parts.toList) (zero_ok hz.symm) hcs
        refine ⟨_, .agg cells, h, by simp only [LR]; exact .agg _ _ e2.1 e2.2, run_build w T _ cells ?_⟩
        unfold Program.built
        simp only [h1, h2, hzv, hp1]
        simpa using e1
      · split at h
        · rename_i cs hcs
          obtain ⟨cells, e1, e2⟩ := fillM_ok flds (fun i => places[i]?) hp2 _ _ _ _ cs (parts_ok hst parts.toList) (zero_ok hz.symm).toP hcs
          refine ⟨_, .agg cells, h, by simp only [LR]; exact ⟨cells, rfl, e2⟩, run_build w T _ cells ?_⟩
          unfold Program.built
          simp only [h1, h2, hzv, hp1]
          simpa using e1
        · exact h.elim
    · cases hz
  · rename_i m e z _ _ _ _ _ hi
    obtain ⟨j, d, h1, h2, h3, _, _, _, hz, _⟩ := ti_spec hi
    have hd := kdOf_arr h3
    subst hd
    simp only at hz
    split at hz
    · rename_i zv hzv
      split at h
      · rename_i je hje
        obtain ⟨j', d', h1', h2', _, hsz', _⟩ := ti_spec hje
        split at h
        · rename_i cs hcs
          obtain ⟨cells, e1, e2⟩ := fillS_ok _ (fun i => some (i * j'.size, j'.size)) (fun i off sz ag hf => by
            simp only [List.getElem?_map, Option.map_eq_some_iff] at hf
            obtain ⟨q, hq, he⟩ := hf
            simp only [Prod.mk.injEq] at he
            have hqi : q = i := by
              have := (List.getElem?_eq_some_iff.1 hq).2
              simpa using this.symm
            rw [← hsz', ← he.1, ← he.2.1, hqi]) _ _ _ _ cs (parts_ok hst parts.toList) (zero_ok hz.symm) hcs
          refine ⟨_, .agg cells, h, by simp only [LR]; exact .agg _ _ e2.1 e2.2, run_build w T _ cells ?_⟩
          unfold Program.built
          simp only [h1, h2, hzv, h1']
          simpa using e1
        · exact h.elim
      · exact h.elim
    · cases hz
  · exact h.elim

theorem zeroV_pr {u : Value} {c : C} (h : zc u = some c) : PR I β w u (zeroV c) := by
  unfold zc at h
  split at h
  · simp only [Option.some.injEq] at h; subst h
    simp only [zeroV, PR]
    exact ⟨trivial, .nil none 0 (fun _ => rfl), none, rfl⟩
  · split at h
    · rename_i hf
      simp only [Option.some.injEq] at h; subst h
      simp only [zeroV, PR]
      exact .lit _ hf
    · cases h
theorem zeroZ_ok {z : Value} {zs : List C} (h : z.cells.toList.mapM zc = some zs) : PCells I β w z.cells (zs.map zeroV) := by
  refine ⟨by have := List.mapM_eq_some_length h; simpa using this.symm, fun j x hx => ?_⟩
  simp only [List.getElem?_map, Option.map_eq_some_iff] at hx
  obtain ⟨c, hc, rfl⟩ := hx
  obtain ⟨u, hu, hz⟩ := List.mapM_eq_some_get h j c hc
  have : z.cells.getD j undef = u := by
    rw [Array.getElem?_toList] at hu
    simp [hu]
  rw [this]; exact zeroV_pr hz

theorem vbuildZ_sound {T : TypeId} {parts : Array (Nat × Operand)} (hst : St G n I0 M w0 I β ob s a w) (h : vbuildZ P T (parts.toList.map fun (i, x) => (i, ev G s x)) K) :
    ∃ z u, K z ∧ LR (Wr M w0) I β w none u z ∧ (Instr.build T (parts.map fun (i, x) => (i, a.eval x))).run P w = .ok u w := by
  unfold vbuildZ at h
  split at h
  · rename_i z flds _ hi
    obtain ⟨j, d, h1, h2, h3, _, _, _, hz, hfl, _, hok⟩ := ti_spec hi
    obtain ⟨fs, rfl⟩ := kdOf_struct h3
    simp only at hz hfl
    split at hz
    · rename_i zv hzv
      have hplaces : ∃ places : List (Nat × Nat), fs.toList.mapM (fun f => (P.info? f.type).map fun i => (f.offset, i.size)) = some places ∧
          ∀ (i off sz : Nat) (ag : Bool), flds[i]? = some (off, sz, ag) → places[i]? = some (off, sz) := by
        subst hfl
        simp only [fldsOf]
        have : ∀ l : List Field, (∀ f ∈ l, ∃ d, P.underlying f.type = some d) → l.mapM (fun f => (P.info? f.type).map fun i => (f.offset, i.size)) = some (l.map fun f => (f.offset, P.cellsOf f.type)) := by
          intro l
          induction l with
          | nil => intro _; simp
          | cons f l ih =>
            intro hl
            obtain ⟨d, hd⟩ := hl f (by simp)
            obtain ⟨i, hi⟩ := info_of_underlying hd
            have := ih (fun g hg => hl g (by simp [hg]))
            simp [List.mapM_cons, hi, this, cellsOf_eq hi]
        refine ⟨_, this fs.toList (fun f hf => Option.isSome_iff_exists.1 (List.all_eq_true.1 hok f hf)), fun i off sz ag hf => ?_⟩
        simp only [List.getElem?_map, Option.map_eq_some_iff] at hf ⊢
        obtain ⟨g, hg, he⟩ := hf
        simp only [Prod.mk.injEq] at he
        exact ⟨g, hg, by rw [he.1, he.2.1]⟩
      obtain ⟨places, hp1, hp2⟩ := hplaces
      split at h
      · rename_i cs hcs
        obtain ⟨cells, e1, e2⟩ := fillM_ok flds (fun i => places[i]?) hp2 _ _ _ _ cs (parts_ok hst parts.toList) (zeroZ_ok hz.symm) hcs
        refine ⟨_, .agg cells, h, by simp only [LR]; exact ⟨cells, rfl, e2⟩, run_build w T _ cells ?_⟩
        unfold Program.built
        simp only [h1, h2, hzv, hp1]
        simpa using e1
      · exact h.elim
    · cases hz
  · exact h.elim

end
end Go.Vl

/- Values without memory: the operations keep the relation: slice literals, append, slicing, conversions. -/
namespace Go.Vl
open Go Go.RowKit

section
variable {P : Program} {G : Gl} {tr : List Nat} {n : Nat} {I0 : Ft} {M : Mx} {w0 : World} {I : Ft} {β : Nat → Option Nat} {ob : Loc → Option Nat} {s : S} {a : Act} {w : World} {o : Oper}
  {next : Act → World → Prop} {Q : Exit → Act → World → Prop} {base : Nat → Prop} {v : Value} {x y : V} {K : V → Prop}

theorem flatten_get {α : Type} {sz : Nat} : ∀ (es : List (List α)), (∀ e ∈ es, e.length = sz) → ∀ i j, j < sz → es.flatten[i * sz + j]? = (es[i]?).bind (·[j]?)
  | [], _, i, j, _ => by simp
  | e :: es, h, i, j, hj => by
    have he : e.length = sz := h e (by simp)
    cases i with
    | zero =>
      simp only [List.flatten_cons, Nat.zero_mul, Nat.zero_add, List.getElem?_cons_zero, Option.bind_some]
      rw [List.getElem?_append_left (by omega)]
    | succ i =>
      simp only [List.flatten_cons, List.getElem?_cons_succ]
      rw [List.getElem?_append_right (by rw [he, Nat.succ_mul]; omega), ← flatten_get es (fun e he => h e (by simp [he])) i j hj]
      congr 1
      rw [he, Nat.succ_mul]; omega

theorem flatten_length {α : Type} {sz : Nat} : ∀ (es : List (List α)), (∀ e ∈ es, e.length = sz) → es.flatten.length = es.length * sz
  | [], _ => by simp
  | e :: es, h => by
    have he : e.length = sz := h e (by simp)
    simp only [List.flatten_cons, List.length_append, List.length_cons, he, flatten_length es (fun e he => h e (by simp [he])), Nat.succ_mul]
    omega

theorem flatten_set {sz : Nat} {ds : List C} (hd : ds.length = sz) : ∀ (es : List (List C)), (∀ e ∈ es, e.length = sz) → ∀ i, i < es.length → (es.set i ds).flatten = setAt es.flatten (i * sz) ds
  | [], _, i, hi => by simp at hi
  | e :: es, h, i, hi => by
    have he : e.length = sz := h e (by simp)
    cases i with
    | zero => simp [setAt, hd, ← he]
    | succ i =>
      have ih := flatten_set hd es (fun e he => h e (by simp [he])) i (by simpa using hi)
      simp only [List.set_cons_succ, List.flatten_cons, ih, setAt]
      have h1 : (i + 1) * sz = e.length + i * sz := by rw [he, Nat.succ_mul]; omega
      rw [h1, List.take_length_add_append, Nat.add_assoc, List.drop_length_add_append]
      simp [List.append_assoc]

theorem fillA_ok {sz : Nat} : ∀ (vs : List (Nat × Value)) (xs : List (Nat × V)) (cells : Array Value) (es es' : List (List C)), Parts base I β w vs xs → Cells I w cells es.flatten → (∀ e ∈ es, e.length = sz) → fillA sz xs es = some es' →
      ∃ cells', Instr.fill (fun i => some (i * sz, sz)) cells vs = some cells' ∧ Cells I w cells' es'.flatten ∧ (∀ e ∈ es', e.length = sz) ∧ es'.length = es.length
  | [], [], cells, es, es', _, hc, hs, h => ⟨cells, rfl, by simp only [fillA, Option.some.injEq] at h; subst h; exact ⟨hc, hs, rfl⟩⟩
  | (i, v) :: vs, (j, x) :: xs, cells, es, es', hps, hc, hs, h => by
    obtain ⟨rfl, ⟨ox, hx⟩, hps⟩ := hps
    simp only [fillA] at h
    split at h
    · rename_i ds hds
      split at h
      · rename_i hlen
        have hd := cs_ok hx hds
        have hbound : i * sz + sz ≤ es.length * sz := by rw [← Nat.succ_mul]; exact Nat.mul_le_mul_right _ hlen.2
        have hfl := flatten_length es hs
        have hstep := fill_step hc hd (off := i * sz) (by rw [hfl, hlen.1]; exact hbound)
        rw [← flatten_set hlen.1 es hs i hlen.2] at hstep
        obtain ⟨cells', e1, e2, e3, e4⟩ := fillA_ok vs xs _ _ es' hps hstep (fun e he => by
          rcases List.mem_or_eq_of_mem_set he with he | he
          · exact hs e he
          · rw [he]; exact hlen.1) h
        refine ⟨cells', ?_, e2, e3, by simpa using e4⟩
        have h1 : v.cells.size = sz := by rw [hd.1]; exact hlen.1
        have h2 : cells.size = es.flatten.length := hc.1
        simp only [Instr.fill]
        rw [if_neg (by simp [h1, h2, hfl]; exact hbound)]
        exact e1
      · cases h
    · cases h
  | [], _ :: _, _, _, _, hps, _, _, _ => hps.elim
  | _ :: _, [], _, _, _, hps, _, _, _ => hps.elim

/-- A slice over a row of its own, from the row's beginning. -/
theorem CR.row {I' : Ft} {w' : World} {blk cap sz : Nat} {cur : Array Value} {T : TypeId} {fr : Nat × Nat} {es : List (List C)} (hh : w'.heap[blk]? = some (.cells cur T fr)) (hcap : es.length ≤ cap) (hs : ∀ e ∈ es, e.length = sz)
    (hc : ∀ j c, es.flatten[j]? = some c → j < cur.size ∧ CR I' w' (cur.getD j undef) c) (hI : ∀ o, o < es.length * sz → I' blk o) :
    CR I' w' (.slice (some ⟨blk, 0, none⟩) es.length cap) (.sl es) := by
  have hfl := flatten_length es hs
  have hidx : ∀ i j, i < es.length → j < sz → i * sz + j < es.length * sz := fun i j hi hj => by
    have : (i + 1) * sz ≤ es.length * sz := Nat.mul_le_mul_right _ hi
    rw [Nat.succ_mul] at this; omega
  refine .sl blk 0 cap sz es (fun i j => cur.getD (i * sz + j) undef) hcap hs (fun i j hi hj => ?_) (fun i j e c he hc' => ?_)
  · have hlt := hidx i j hi hj
    obtain ⟨c, hcc⟩ : ∃ c, es.flatten[i * sz + j]? = some c := ⟨_, List.getElem?_eq_getElem (by omega)⟩
    have hlt' := (hc _ c hcc).1
    rw [Nat.zero_add]
    refine ⟨?_, hI _ hlt⟩
    rw [cell_of_row w' blk (i * sz + j) cur T fr hh]
    simp [Array.getElem?_eq_getElem hlt']
  · have hi := (List.getElem?_eq_some_iff.1 he).1
    have hj : j < sz := by rw [← hs e (List.mem_of_getElem? he)]; exact (List.getElem?_eq_some_iff.1 hc').1
    have := flatten_get es hs i j hj
    rw [he] at this
    exact (hc _ c (by rw [this]; exact hc')).2

theorem St.fresh (hst : St G n I0 M w0 I β ob s a w) {b : Nat} (hb : w.heap.size ≤ b) : (∀ L, ob L ≠ some b) ∧ ∀ i, β i ≠ some b := by
  refine ⟨fun L hL => ?_, fun i hi => ?_⟩
  · have := (hst.obnd L b hL).1; omega
  · by_cases h : i < s.nb
    · obtain ⟨blk, cur, e1, _, e3, _⟩ := hst.bx i h
      rw [hi] at e1
      cases e1
      have := e3.lt
      omega
    · rw [hst.bnone i (by omega)] at hi; cases hi

/-- A new row of its own, owned: what an operation that lays one leaves. -/
theorem SE.finRow (hst : St G n I0 M w0 I β ob s a w) (hd : ∀ d, o.dst = some d → d < n) {w1 : World} {cur : Array Value} {e : TypeId} {cap sz : Nat} {es : List (List C)}
    (hst1 : St G n I0 M w0 I β ob s a w1) (hw : w1.heap.size = w.heap.size) (hcap : es.length ≤ cap) (hm : cap ≤ maxLen) (hcs : cur.size = cap * sz) (hs : ∀ x ∈ es, x.length = sz)
    (hc : ∀ j c, es.flatten[j]? = some c → CR I w (cur.getD j undef) c) (hsame : ∀ b o, I b o → w1.cell? ⟨b, o, none⟩ = w.cell? ⟨b, o, none⟩) :
    SE G n I0 M w0 (s.after tr o (.ow (some (e, sz)) es)) (a.put o.dst (.slice (some ⟨w1.heap.size, 0, none⟩) es.length cap)) (w1.alloc (.cells cur e)) := by
  have hg := hst1.grow (w' := w1.alloc (.cells cur e)) (I' := fun b k => I b k ∨ (b = w1.heap.size ∧ k < es.length * sz)) (World.grownBy_alloc w1 _ none) (fun _ _ h => .inl h) (fun b k hb => by
    rcases hb with hb | hb
    · exact .inl hb
    · exact .inr ⟨by omega, by rw [World.size_alloc]; omega⟩)
  have hfl := flatten_length es hs
  have hmono : ∀ b o, I b o → (I b o ∨ (b = w1.heap.size ∧ o < es.length * sz)) ∧ (w1.alloc (.cells cur e)).cell? ⟨b, o, none⟩ = w.cell? ⟨b, o, none⟩ := fun b o h => ⟨.inl h, by
    rw [← hsame b o h]; exact World.cell?_of_block (a := ⟨b, o, none⟩) (Below.heap_alloc w1 _ b (by rw [hw]; exact hst.ibnd b o h))⟩
  have hle : es.length * sz ≤ cap * sz := Nat.mul_le_mul_right _ hcap
  have hcr : CR (fun b k => I b k ∨ (b = w1.heap.size ∧ k < es.length * sz)) (w1.alloc (.cells cur e)) (.slice (some ⟨w1.heap.size, 0, none⟩) es.length cap) (.sl es) :=
    CR.row (heap_alloc_new w1 _) hcap hs (fun j c hj => ⟨by
      have := (List.getElem?_eq_some_iff.1 hj).1
      rw [hcs]; omega, (hc j c hj).mono hmono⟩) (fun k hk => .inr ⟨rfl, hk⟩)
  refine .fin hg hd (o' := some w1.heap.size) (by
    simp only [LR]
    refine ⟨hcr, .inr ⟨e, w1.heap.size, cap, cur, sz, rfl, rfl, rfl, .inl hst1.below.size, heap_alloc_new w1 _, hcap, hm, hcs, hs, fun k hk => ?_⟩⟩
    rcases hk with hk | hk
    · have := hst1.ibnd _ _ hk; omega
    · exact hk.2) (fun b hb => ?_)
  simp only [Option.some.injEq] at hb
  subst hb
  obtain ⟨f1, f2⟩ := hst1.fresh (Nat.le_refl _)
  exact ⟨⟨by rw [World.size_alloc]; omega, .inl hst1.below.size⟩, f2, fun L hL => absurd hL (f1 L)⟩

theorem run_buildSlice' (w : World) (t e : TypeId) (len : Nat) (parts : Array (Nat × Value)) (cells : Array Value) (ie : TypeInfo) (z : Value)
    (hu : P.underlying t = some (.slice e)) (hie : P.info? e = some ie) (hz : ie.zero = some z) (hsmall : len * ie.size ≤ 2 ^ 24)
    (h : Instr.fill (fun i => some (i * ie.size, ie.size)) ((Array.range (len * ie.size)).map (z.cells[· % z.cells.size]!)) parts.toList = some cells) :
    (Instr.buildSlice t len parts).run P w = .ok (.slice (some ⟨w.heap.size, 0, none⟩) len len) (w.alloc (.cells cells e)) := by
  by_cases hpos : len * ie.size = 0
  · have h0 : ((Array.range (len * ie.size)).map (z.cells[· % z.cells.size]!)) = #[] := by rw [hpos]; simp
    rw [h0] at h
    have h0' : ((Array.range (len * ie.size)).map ((#[] : Array Value)[· % (#[] : Array Value).size]!)) = #[] := by rw [hpos]; simp
    have hn : ¬ 16777216 < len * ie.size := by omega
    unfold Instr.buildSlice
    simp only [Sem.run_bind, run_underlying hu, Result.andThen_ok, sizeOf, typeInfo, run_program, hie, Sem.run_pure]
    rw [if_neg (by simpa using hn), if_pos hpos]
    simp only [Sem.run_bind, Sem.run_pure, Result.andThen_ok, h0', h]
    simp [newRow]
  · exact run_buildSlice w t e len parts cells ie z hu hie hz (by omega) hpos h

theorem zeros_ok {z : Value} {zs : List C} (hz : Cells I w z.cells zs) (hpos : 0 < zs.length) (len : Nat) :
    Cells I w ((Array.range (len * zs.length)).map (z.cells[· % z.cells.size]!)) (List.replicate len zs).flatten := by
  refine ⟨by simp, fun j c hc => ?_⟩
  have hj : j < len * zs.length := by
    have := (List.getElem?_eq_some_iff.1 hc).1
    simpa using this
  have hjm : j % zs.length < zs.length := Nat.mod_lt _ hpos
  have hdiv : j / zs.length < len := by rw [Nat.div_lt_iff_lt_mul hpos]; exact hj
  have e1 : j = j / zs.length * zs.length + j % zs.length := by rw [Nat.mul_comm]; exact (Nat.div_add_mod j zs.length).symm
  have hc' : zs[j % zs.length]? = some c := by
    rw [e1, flatten_get (sz := zs.length) _ (by intro e he; rw [List.eq_of_mem_replicate he]) _ _ hjm] at hc
    rw [List.getElem?_replicate, if_pos hdiv] at hc
    simpa using hc
  have hsz : z.cells.size = zs.length := hz.1
  have : ((Array.range (len * zs.length)).map (z.cells[· % z.cells.size]!)).getD j undef = z.cells.getD (j % zs.length) undef := by
    simp [hj, hsz, getElem!_def, Array.getElem?_eq_getElem (show j % zs.length < z.cells.size by omega)]
  rw [this]
  exact hz.2 _ c hc'

/-- A new slice, as a box. -/
theorem vbuildNew_sound {T : TypeId} {len : Nat} {parts : Array (Nat × Operand)} {K : S → Prop} {d : Option Tmp} (hst : St G n I0 M w0 I β ob s a w)
    (h : vbuildSlice P T len (parts.toList.map fun (i, x) => (i, ev G s x)) (vnew s d len len K)) :
    ∃ (e : TypeId) (sz : Nat) (es : List (List C)) (cells : Array Value), K ({ s with bx := up s.bx s.nb (es.flatten.map .c), nb := s.nb + 1 }.put d (.ms s.nb 0 len len sz)) ∧
      (Instr.buildSlice T len (parts.map fun (i, x) => (i, a.eval x))).run P w = .ok (.slice (some ⟨w.heap.size, 0, none⟩) len len) (w.alloc (.cells cells e)) ∧ Cells I w cells es.flatten := by
  unfold vbuildSlice at h
  split at h
  · rename_i e _ _ _ _ _ _ hi
    obtain ⟨j, d, h1, h2, h3, _⟩ := ti_spec hi
    have hd' := kdOf_slice h3
    subst hd'
    split at h
    · rename_i sz _ _ z _ _ hje
      obtain ⟨j', d', h1', h2', _, hsz', _, _, hz', _⟩ := ti_spec hje
      simp only at hz' hsz'
      obtain ⟨⟨hp, hzl, hsm⟩, h⟩ := h
      split at hz'
      · rename_i zv hzv
        split at h
        · rename_i es hes
          have hzc := zero_ok (I := I) (w := w) hz'.symm
          obtain ⟨cells, e1, e2, e3, e4⟩ := fillA_ok (sz := sz) _ _ _ (List.replicate len z) es (parts_ok hst parts.toList) (zeros_ok hzc (by omega) len) (by intro q hq; rw [List.eq_of_mem_replicate hq]; exact hzl) hes
          have hrun := run_buildSlice' (P := P) w T e len (parts.map fun (i, x) => (i, a.eval x)) cells j' zv h2 h1' hzv (by rw [← hsz']; omega) (by
            rw [← hsz', ← hzl]
            rw [← hzl] at e1
            simpa using e1)
          by_cases hl0 : len = 0
          · rw [if_pos hl0] at h; exact h.elim
          · rw [if_neg hl0] at h; exact ⟨e, sz, es, cells, h, hrun, e2⟩
        · exact h.elim
      · cases hz'
    · exact h.elim
  · exact h.elim

theorem vmake_sound {T : TypeId} {l c : Operand} {K : Nat → Nat → Nat → List C → Prop} (hst : St G n I0 M w0 I β ob s a w) (h : vmake P T (ev G s l) (ev G s c) K) :
    ∃ (e : TypeId) (p m sz : Nat) (z : List C) (cells : Array Value), K p m sz z ∧ p ≤ m ∧
      (Instr.makeSlice T (a.eval l) (a.eval c)).run P w = .ok (.slice (some ⟨w.heap.size, 0, none⟩) p m) (w.alloc (.cells cells e)) ∧ Cells I w cells (List.replicate m z).flatten := by
  unfold vmake at h
  split at h
  · rename_i e _ _ _ _ _ _ kl p kc m hi hl hc
    obtain ⟨j, d, h1, h2, h3, _⟩ := ti_spec hi
    have hd' := kdOf_slice h3
    subst hd'
    split at h
    · rename_i sz by_ _ z _ _ hje
      obtain ⟨j', d', h1', h2', _, hsz', hby', _, hz', _⟩ := ti_spec hje
      simp only at hz' hsz' hby'
      obtain ⟨⟨hp, hzl, h0, hle, hb, h63⟩, h⟩ := h
      split at hz'
      · rename_i zv hzv
        have hzc := zero_ok (I := I) (w := w) hz'.symm
        have e1 : a.eval l = .int kl p := by have := ev_sound hst l; rw [hl] at this; exact this.lit
        have e2 : a.eval c = .int kc m := by have := ev_sound hst c; rw [hc] at this; exact this.lit
        refine ⟨e, _, _, sz, z, _, h, by omega, by rw [e1, e2]; exact run_make w T e j' zv h2 h1' hzv kl kc p m h0 hle (by rw [← hby']; exact hb) h63, ?_⟩
        rw [← hsz', ← hzl]
        exact zeros_ok hzc (by omega) m.toNat
      · cases hz'
    · exact h.elim
  · exact h.elim

theorem vbuildSlice_sound {T : TypeId} {len : Nat} {parts : Array (Nat × Operand)} (hst : St G n I0 M w0 I β ob s a w) (hd : ∀ d, o.dst = some d → d < n)
    (h : vbuildSlice P T len (parts.toList.map fun (i, x) => (i, ev G s x)) K) :
    ∃ z u w', K z ∧ (Instr.buildSlice T len (parts.map fun (i, x) => (i, a.eval x))).run P w = .ok u w' ∧ SE G n I0 M w0 (s.after tr o z) (a.put o.dst u) w' := by
  unfold vbuildSlice at h
  split at h
  · rename_i e _ _ _ _ _ _ hi
    obtain ⟨j, d, h1, h2, h3, _⟩ := ti_spec hi
    have hd' := kdOf_slice h3
    subst hd'
    split at h
    · rename_i sz _ _ z _ _ hje
      obtain ⟨j', d', h1', h2', _, hsz', _, _, hz', _⟩ := ti_spec hje
      simp only at hz' hsz'
      obtain ⟨⟨hp, hzl, hsm⟩, h⟩ := h
      split at hz'
      · rename_i zv hzv
        split at h
        · rename_i es hes
          have hzc := zero_ok (I := I) (w := w) hz'.symm
          obtain ⟨cells, e1, e2, e3, e4⟩ := fillA_ok (sz := sz) _ _ _ (List.replicate len z) es (parts_ok hst parts.toList) (zeros_ok hzc (by omega) len) (by intro q hq; rw [List.eq_of_mem_replicate hq]; exact hzl) hes
          have hel : es.length = len := by simpa using e4
          have hrun := run_buildSlice' (P := P) w T e len (parts.map fun (i, x) => (i, a.eval x)) cells j' zv h2 h1' hzv (by rw [← hsz']; omega) (by
            rw [← hsz', ← hzl]
            rw [← hzl] at e1
            simpa using e1)
          by_cases hl0 : len = 0
          · rw [if_pos hl0] at h
            refine ⟨_, _, _, h, hrun, ?_⟩
            have hes0 : es = [] := List.eq_nil_of_length_eq_zero (by omega)
            subst hes0
            subst hl0
            refine .fin (hst.allocOwn _) hd (o' := none) ⟨?_, .inl ⟨rfl, rfl, _, rfl⟩⟩ (fun _ h => by cases h)
            exact .sl _ _ 0 0 [] (fun _ _ => undef) (Nat.le_refl _) (by simp) (by simp) (by simp)
          rw [if_neg hl0] at h
          refine ⟨_, _, _, h, hrun, ?_⟩
          have := SE.finRow (tr := tr) (o := o) (e := e) (cap := len) (sz := sz) (cur := cells) (es := es) hst hd hst rfl (by omega) (by
              have : len ≤ len * sz := Nat.le_mul_of_pos_right _ hp
              unfold maxLen; omega) (by rw [e2.1, flatten_length es e3, hel]) e3 e2.2 (fun _ _ _ => rfl)
          rw [hel] at this
          exact this
        · exact h.elim
      · cases hz'
    · exact h.elim
  · exact h.elim

end
end Go.Vl

/- Values without memory: the operations keep the relation: append. -/
namespace Go.Vl
open Go Go.RowKit

section
variable {P : Program} {G : Gl} {tr : List Nat} {n : Nat} {I0 : Ft} {M : Mx} {w0 : World} {I : Ft} {β : Nat → Option Nat} {ob : Loc → Option Nat} {s : S} {a : Act} {w : World} {o : Oper}
  {next : Act → World → Prop} {Q : Exit → Act → World → Prop} {base : Nat → Prop} {v : Value} {x y : V} {K : V → Prop}

theorem flatX {J : Ft} {b off sz sz' : Nat} {es : List (List C)} {f : Nat → Nat → Value} (hs : ∀ x ∈ es, x.length = sz) (hs' : ∀ e ∈ es, e.length = sz')
    (hcell : ∀ i j, i < es.length → j < sz' → w.cell? ⟨b, off + i * sz' + j, none⟩ = some (f i j) ∧ J b (off + i * sz' + j)) (hrel : ∀ i j e c, es[i]? = some e → e[j]? = some c → CR I w (f i j) c) :
    ∃ vs : List Value, vs.length = es.length * sz ∧ (∀ (q : Nat) (u : Value), vs[q]? = some u → w.cell? ⟨b, off + q, none⟩ = some u ∧ J b (off + q)) ∧
      (∀ (q : Nat) (c : C), es.flatten[q]? = some c → ∃ u, vs[q]? = some u ∧ CR I w u c) ∧ (∀ u ∈ vs, u.oneCell' = true) := by
  have hfl := flatten_length es hs
  by_cases h0 : es.length * sz = 0
  · refine ⟨[], by simp [h0], by simp, fun q c hq => ?_, by simp⟩
    have := (List.getElem?_eq_some_iff.1 hq).1
    omega
  have hsz0 : 0 < sz := Nat.pos_of_ne_zero fun e => h0 (by simp [e])
  have hel : 0 < es.length := Nat.pos_of_ne_zero fun e => h0 (by simp [e])
  have hsz : sz' = sz := by rw [← hs' es[0] (List.getElem_mem _), hs es[0] (List.getElem_mem _)]
  subst hsz
  have hin : ∀ q, q < es.length * sz' → q / sz' < es.length ∧ q % sz' < sz' ∧ q = q / sz' * sz' + q % sz' := fun q hq =>
    ⟨by rw [Nat.div_lt_iff_lt_mul hsz0]; exact hq, Nat.mod_lt _ hsz0, by rw [Nat.mul_comm]; exact (Nat.div_add_mod q sz').symm⟩
  have hflat : ∀ (q : Nat) (c : C), es.flatten[q]? = some c → q < es.length * sz' ∧ CR I w (f (q / sz') (q % sz')) c := fun q c hq => by
    have hlt := (List.getElem?_eq_some_iff.1 hq).1
    rw [hfl] at hlt
    obtain ⟨h1, h2, h3⟩ := hin q hlt
    rw [h3, flatten_get es hs _ _ h2] at hq
    simp only [List.getElem?_eq_getElem h1, Option.bind_some] at hq
    exact ⟨hlt, hrel _ _ _ c (List.getElem?_eq_getElem h1) hq⟩
  refine ⟨(List.range (es.length * sz')).map fun q => f (q / sz') (q % sz'), by simp, fun q u hq => ?_, fun q c hq => ?_, fun u hu => ?_⟩
  · simp only [List.getElem?_map, Option.map_eq_some_iff] at hq
    obtain ⟨q', hq', rfl⟩ := hq
    have hlt := (List.getElem?_eq_some_iff.1 hq').1
    simp at hlt
    have hqq : q' = q := by have := (List.getElem?_eq_some_iff.1 hq').2; simpa using this.symm
    subst hqq
    obtain ⟨h1, h2, h3⟩ := hin q' hlt
    have := hcell _ _ h1 h2
    rw [Nat.add_assoc, ← h3] at this
    exact this
  · obtain ⟨hlt, hcr⟩ := hflat q c hq
    exact ⟨_, by simp [hlt], hcr⟩
  · simp only [List.mem_map, List.mem_range] at hu
    obtain ⟨q, hq, rfl⟩ := hu
    obtain ⟨c, hc⟩ : ∃ c, es.flatten[q]? = some c := ⟨_, List.getElem?_eq_getElem (by omega)⟩
    exact (hflat q c hc).2.oneCell

/-- The cells of a slice's elements, in a row. -/
theorem CR.flat {b off cap sz : Nat} {es : List (List C)} (h : CR I w (.slice (some ⟨b, off, none⟩) es.length cap) (.sl es)) (hs : ∀ x ∈ es, x.length = sz) :
    ∃ vs : List Value, vs.length = es.length * sz ∧ (∀ (q : Nat) (u : Value), vs[q]? = some u → w.cell? ⟨b, off + q, none⟩ = some u ∧ I b (off + q)) ∧
      (∀ (q : Nat) (c : C), es.flatten[q]? = some c → ∃ u, vs[q]? = some u ∧ CR I w u c) ∧ (∀ u ∈ vs, u.oneCell' = true) := by
  rcases h.sl_inv with ⟨_, rfl⟩ | ⟨b', off', cap', sz', f, hv, hcap, hs', hcell, hrel⟩
  · exact ⟨[], by simp, by simp, by simp, by simp⟩
  simp only [Value.slice.injEq, Option.some.injEq, Addr.mk.injEq, and_true, true_and] at hv
  obtain ⟨⟨rfl, rfl⟩, rfl⟩ := hv
  exact flatX hs hs' hcell hrel

/-- The same, from whatever place a slice begins at. -/
theorem CR.oldsOf {xa : Addr} {cap sz : Nat} {es : List (List C)} (h : CR I w (.slice (some xa) es.length cap) (.sl es)) (hs : ∀ x ∈ es, x.length = sz) :
    ∃ vs : List Value, vs.length = es.length * sz ∧ (∀ (q : Nat) (u : Value), vs[q]? = some u → w.cell? (xa.add q) = some u) ∧
      (∀ (q : Nat) (c : C), es.flatten[q]? = some c → ∃ u, vs[q]? = some u ∧ CR I w u c) ∧ (∀ u ∈ vs, u.oneCell' = true) := by
  by_cases hne : es = []
  · subst hne; exact ⟨[], by simp, by simp, by simp, by simp⟩
  · rcases h.sl_inv with ⟨_, h0⟩ | ⟨b, off, cap', _, _, hv, _⟩
    · exact absurd h0 hne
    · simp only [Value.slice.injEq, Option.some.injEq] at hv
      obtain ⟨rfl, _, _⟩ := hv
      obtain ⟨vs, h1, h2, h3, h4⟩ := h.flat hs
      exact ⟨vs, h1, fun q u hq => by rw [Addr.add_lit]; exact (h2 q u hq).1, h3, h4⟩

theorem RD.flat {b off cap sz : Nat} {es : List (List C)} (h : RD I w (.slice (some ⟨b, off, none⟩) es.length cap) es) (hs : ∀ x ∈ es, x.length = sz) :
    ∃ vs : List Value, vs.length = es.length * sz ∧ (∀ (q : Nat) (u : Value), vs[q]? = some u → w.cell? ⟨b, off + q, none⟩ = some u ∧ True) ∧
      (∀ (q : Nat) (c : C), es.flatten[q]? = some c → ∃ u, vs[q]? = some u ∧ CR I w u c) ∧ (∀ u ∈ vs, u.oneCell' = true) := by
  rcases h with ⟨_, rfl⟩ | ⟨b', off', cap', sz', f, hv, hcap, hs', hcell, hrel⟩
  · exact ⟨[], by simp, by simp, by simp, by simp⟩
  simp only [Value.slice.injEq, Option.some.injEq, Addr.mk.injEq, and_true, true_and] at hv
  obtain ⟨⟨rfl, rfl⟩, rfl⟩ := hv
  exact flatX (J := fun _ _ => True) hs hs' (fun i j hi hj => ⟨hcell i j hi hj, trivial⟩) hrel

theorem RD.some' {a' : Option Addr} {n m : Nat} {es : List (List C)} (h : RD I w (.slice a' n m) es) (hne : es ≠ []) : ∃ b off, a' = some ⟨b, off, none⟩ := by
  rcases h with ⟨_, h0⟩ | ⟨b, off, cap, sz, f, hv, _⟩
  · exact absurd h0 hne
  · cases hv; exact ⟨b, off, rfl⟩


theorem St.growRow (h : St G n I0 M w0 I β ob s a w) {w' : World} {r : Nat} (hg : w.grownBy w' (some r)) (hr : Wr M w0 r) (hcell : ∀ o, I r o → w'.cell? ⟨r, o, none⟩ = w.cell? ⟨r, o, none⟩)
    (hob : ∀ L, ob L ≠ some r) (hβ : ∀ i, β i ≠ some r) {I' : Ft} (h1 : ∀ b o, I b o → I' b o) (h2 : ∀ b o, I' b o → I b o ∨ b = r) (hlt : r < w'.heap.size) : St G n I0 M w0 I' β ob s a w' := by
  have hk := h.keeps hg (fun r' e o ho => by cases e; exact hcell o ho)
  have hI : ∀ b o, I b o → I' b o ∧ w'.cell? ⟨b, o, none⟩ = w.cell? ⟨b, o, none⟩ := fun b o hb => ⟨h1 b o hb, hk b o hb⟩
  have hob' : ∀ L b, ob L = some b → w'.heap[b]? = w.heap[b]? ∧ ∀ o, I' b o → I b o := fun L b hL => by
    have hne : b ≠ r := fun e => hob L (e ▸ hL)
    refine ⟨hg.block b (h.obnd L b hL).1 (by simpa using hne), fun o ho => ?_⟩
    rcases h2 b o ho with h5 | h5
    · exact h5
    · exact absurd h5 hne
  exact {
    size := h.size, defers := h.defers
    below := h.below.grown hg (fun k e => by cases e; exact hr)
    kept := fun b o h0 => (hk b o (h.ilow b o h0)).trans (h.kept b o h0)
    ilow := fun b o hb => h1 b o (h.ilow b o hb)
    ihigh := fun b o hb => by
      rcases h2 b o hb with h3 | h3
      · exact h.ihigh b o h3
      · exact .inr (by rw [h3]; exact hr)
    ibnd := fun b o hb => by
      rcases h2 b o hb with h3 | h3
      · exact Nat.lt_of_lt_of_le (h.ibnd b o h3) hg.size
      · rw [h3]; exact hlt
    fr := fun t => (h.fr t).mono hI (fun _ _ e => e) (hob' (.t t))
    bx := fun i hi => by
      obtain ⟨blk, cur, e1, e2, e3, e4, e5, e7⟩ := h.bx i hi
      have hlt' : blk < w.heap.size := e3.lt
      have hne : blk ≠ r := fun e => hβ i (e ▸ e1)
      refine ⟨blk, cur, e1, e2, e3.mono (hg.block blk hlt' (by simpa using hne)), e4, fun j => (e5 j).mono hI (fun _ _ e => e) (hob' (.b i j)), fun o ho => ?_⟩
      rcases h2 blk o ho with h3 | h3
      · exact e7 o h3
      · exact hne h3
    bnone := h.bnone, ext := h.ext, bnew := h.bnew, binj := h.binj, oinj := h.oinj, obx := h.obx
    obnd := fun L b hL => ⟨Nat.lt_of_lt_of_le (h.obnd L b hL).1 hg.size, (h.obnd L b hL).2⟩
    glob := fun g cs hg' => (h.glob g cs hg').mono hI }

theorem run_append_zero (T ty e : TypeId) (i : TypeInfo) (ht : P.underlying T = some (.slice e)) (hi : P.info? e = some i) (b : Option Addr) (k cap : Nat) (hk : k ≤ cap) (xa : Option Addr) (c : Nat) :
    (Builtin.append_ #[T, T] ty #[.slice b k cap, .slice xa 0 c]).run P w = .ok (.slice b k cap) w := by
  have hf : (Builtin.firstCells i.size 0 (.slice xa 0 c)).run P w = .ok #[] w := by
    cases xa with
    | none => rfl
    | some x => simp [Builtin.firstCells, loadCells, loadCellsFrom]
  unfold Builtin.append_
  cases b <;> simp [run_underlying ht, sizeOf, typeInfo, hi, Builtin.lenOf, hk, hf, storeCells]

theorem CR.sl_nil {a' : Option Addr} {k c : Nat} {es : List (List C)} (h : CR I w (.slice a' k c) (.sl es)) : k = es.length ∧ k ≤ c := by
  rcases h.sl_inv with ⟨h0, h1⟩ | ⟨b, off, cap, sz, f, hv, hcap, _⟩
  · obtain ⟨a, cap, h0, _⟩ := h0; cases h0; simp [h1]
  · cases hv; exact ⟨rfl, hcap⟩

theorem CR.sl_some {a' : Option Addr} {k c : Nat} {es : List (List C)} (h : CR I w (.slice a' k c) (.sl es)) (h0 : es ≠ []) : ∃ b off, a' = some ⟨b, off, none⟩ := by
  rcases h.sl_inv with ⟨_, h1⟩ | ⟨b, off, cap, sz, f, hv, _⟩
  · exact absurd h1 h0
  · cases hv; exact ⟨b, off, rfl⟩

theorem getD_append_zeros (olds news : List Value) (z : Array Value) (j : Nat) (u : Value) (h : (olds ++ news)[j]? = some u) : (olds.toArray ++ news.toArray ++ z).getD j undef = u := by
  have hlt := (List.getElem?_eq_some_iff.1 h).1
  simp at hlt
  have : (olds.toArray ++ news.toArray ++ z)[j]? = some u := by
    rw [Array.getElem?_append_left (by simp; omega)]
    simpa using h
  rw [Array.getD_eq_getD_getElem?, this]; rfl

theorem vappend_sound {T ty : TypeId} {X : Operand} {vy : Value} (hst : St G n I0 M w0 I β ob s a w) (hd : ∀ d, o.dst = some d → d < n)
    (hcon : consT tr o = (match X with | .tmp t => some t | _ => none)) (h : vappend P T (ev G s X) y K) (hy : ∀ ys, y = .c (.sl ys) → RD I w vy ys) :
    ∃ z u w', K z ∧ (Builtin.append_ #[T, T] ty #[a.eval X, vy]).run P w = .ok u w' ∧ SE G n I0 M w0 (s.after tr o z) (a.put o.dst u) w' := by
  have hx := ev_sound hst X
  unfold vappend at h
  split at h
  · rename_i e _ _ _ _ _ _ E es hi hev
    rw [hev] at hx
    obtain ⟨j, d, h1, h2, h3, _⟩ := ti_spec hi
    have hd' := kdOf_slice h3
    subst hd'
    split at h
    · rename_i sz by_ _ z _ _ hje
      obtain ⟨j', d', h1', h2', _, hsz', hby', _, hz', _⟩ := ti_spec hje
      simp only at hz' hsz' hby'
      obtain ⟨⟨hp, hzl, hE, hes⟩, h⟩ := h
      split at hz'
      · rename_i zv hzv
        split at h
        · rename_i ys
          obtain ⟨⟨hb, hlen, hys⟩, h⟩ := h
          have hcy := hy _ rfl
          have hzc := zero_ok (I := I) (w := w) hz'.symm
          have hzsz : zv.cells.size = sz := by rw [hzc.1, hzl]
          obtain ⟨vsl, hvy⟩ : ∃ (p : Option Addr × Nat), vy = .slice p.1 ys.length p.2 := by
            rcases hcy with ⟨h0, h1⟩ | ⟨b, off, cap, _, _, hv, _⟩
            · obtain ⟨a0, c0, h0, _⟩ := h0; exact ⟨(a0, c0), by rw [h0, h1]; rfl⟩
            · exact ⟨(some ⟨b, off, none⟩, cap), hv⟩
          obtain ⟨ya, yc⟩ := vsl
          simp only at hvy
          subst hvy
          have hxo := hx.2
          have hxc := hx.1
          have hisOw : (ev G s X).isOw = true := by rw [hev]; rfl
          by_cases hys0 : ys = []
          · -- nothing is appended
            subst hys0
            simp only [List.isEmpty_nil, if_true] at h
            obtain ⟨xa, xk, hxv, hxk⟩ : ∃ (xa : Option Addr) (xk : Nat), a.eval X = .slice xa es.length xk ∧ es.length ≤ xk := by
              rcases hxo with ⟨_, _, b, hv⟩ | ⟨_, blk, cap, _, _, _, _, hv, _, _, hc, _⟩
              · exact ⟨b, _, hv, Nat.le_refl _⟩
              · exact ⟨_, cap, hv, hc⟩
            refine ⟨_, a.eval X, w, h, by rw [hxv]; exact run_append_zero T ty e j' h2 h1' xa _ xk hxk ya yc, ?_⟩
            rw [List.append_nil]
            refine .fin hst hd (o' := opOb ob X) ?_ fun b hb => ?_
            · simp only [LR]
              refine ⟨hxc, ?_⟩
              rcases hxo with hxo | ⟨e', blk, cap, cur, sz', e1, e2, e3⟩
              · exact .inl hxo
              · exact .inr ⟨e', blk, cap, cur, sz', e1, e2, e3⟩
            · cases X with
              | tmp t => exact ⟨hst.obnd _ b hb, fun i => hst.obx _ b i hb, fun L hL => ⟨t, hst.oinj _ _ b hL hb, hcon, hisOw⟩⟩
              | _ => cases hb
          · have hie : ys.isEmpty = false := by simpa using hys0
            simp only [hie, Bool.false_eq_true, if_false] at h
            obtain ⟨yb, yoff, rfl⟩ := hcy.some' hys0
            obtain ⟨news, hnl, hnews, hnc, hn1⟩ := hcy.flat hys
            have hnews' : ∀ (q : Nat) (u : Value), news[q]? = some u → w.cell? ((⟨yb, yoff, none⟩ : Addr).add q) = some u := fun q u hq => by rw [Addr.add_lit]; exact (hnews q u hq).1
            have hm0 : 0 < ys.length := List.length_pos_iff.2 hys0
            have hall : ∀ x ∈ es ++ ys, x.length = sz := fun x hx => by rcases List.mem_append.1 hx with hx | hx; exact hes x hx; exact hys x hx
            have hmax : es.length + ys.length ≤ maxLen := by unfold maxLen; omega
            have flat_eq : (es ++ ys).flatten = es.flatten ++ ys.flatten := by simp
            have hfe := flatten_length es hes
            -- a new array
            have grownCase : ∀ (olds : List Value) (cap0 : Nat), olds.length = es.length * sz → (∀ (q : Nat) (c : C), es.flatten[q]? = some c → ∃ u, olds[q]? = some u ∧ CR I w u c) →
                SE G n I0 M w0 (s.after tr o (.ow (some (e, sz)) (es ++ ys))) (a.put o.dst (.slice (some ⟨w.heap.size, 0, none⟩) (es.length + ys.length) (grownCap w (es.length + ys.length) cap0 e)))
                  (w.drew.alloc (.cells (olds.toArray ++ news.toArray ++ Builtin.zeroCells zv.cells (grownCap w (es.length + ys.length) cap0 e - (es.length + ys.length))) e)) := by
              intro olds cap0 hol hoc
              have hge := grownCap_ge w (es.length + ys.length) cap0 e
              have hcm := grownCap_le_maxLen w (es.length + ys.length) cap0 e hmax
              have := SE.finRow (tr := tr) (o := o) (e := e) (cap := grownCap w (es.length + ys.length) cap0 e) (sz := sz) (es := es ++ ys)
                (cur := olds.toArray ++ news.toArray ++ Builtin.zeroCells zv.cells (grownCap w (es.length + ys.length) cap0 e - (es.length + ys.length))) hst hd (w1 := w.drew) hst.drew rfl
                (by simpa using hge) hcm (by
                  simp only [Array.size_append, List.size_toArray, size_zeroCells, hzsz, hol, hnl, ← Nat.add_mul]
                  congr 1
                  omega) hall (fun q c hq => by
                    rw [flat_eq] at hq
                    have hget : ∃ u, (olds ++ news)[q]? = some u ∧ CR I w u c := by
                      by_cases hql : q < es.flatten.length
                      · rw [List.getElem?_append_left hql] at hq
                        obtain ⟨u, hu, hcr⟩ := hoc q c hq
                        exact ⟨u, by rw [List.getElem?_append_left (by omega)]; exact hu, hcr⟩
                      · rw [List.getElem?_append_right (by omega)] at hq
                        obtain ⟨u, hu, hcr⟩ := hnc _ c hq
                        refine ⟨u, ?_, hcr⟩
                        rw [List.getElem?_append_right (by omega), ← hu]
                        congr 1; omega
                    obtain ⟨u, hu, hcr⟩ := hget
                    rw [getD_append_zeros olds news _ q u hu]; exact hcr) (fun _ _ _ => rfl)
              rw [List.length_append] at this
              exact this
            rcases hxo with ⟨hob0, _, xa, hxv⟩ | ⟨e', blk, cap, cur, sz', hob1, hEe, hxv, hbb, hheap, hc, hcm, hcs, hls, hIb⟩
            · cases xa with
              | none =>
                have hes0 : es = [] := by
                  rcases hxc.sl_inv with ⟨_, h1⟩ | ⟨b, off, cap, _, _, hv, _⟩
                  · exact h1
                  · rw [hxv] at hv; cases hv
                subst hes0
                have hrun := run_append_nil (P := P) w T ty e j' zv h2 h1' hzv ⟨yb, yoff, none⟩ ys.length yc news (by rw [← hsz']; exact hnl) hnews' hm0 (by simp only [List.length_nil, Nat.zero_add] at hlen; omega) (by rw [← hby']; simp only [List.length_nil, Nat.zero_add] at hb; omega)
                have := grownCase [] 0 (by simp) (by simp)
                simp only [List.nil_append, List.length_nil, Nat.zero_add, Array.empty_append] at this h
                refine ⟨_, _, _, h, by rw [hxv]; exact hrun, ?_⟩
                simpa using this
              | some xaddr =>
                rw [hxv] at hxc
                obtain ⟨olds, hol, holds, hoc, _⟩ := hxc.oldsOf hes
                have hrun := run_append_grow (P := P) w T ty e j' zv h2 h1' hzv xaddr es.length es.length olds (by rw [← hsz']; exact hol) holds
                  ⟨yb, yoff, none⟩ ys.length yc news (by rw [← hsz']; exact hnl) hnews' (by omega) (by omega) (by rw [← hby']; exact growslice_fits (by omega) hb)
                exact ⟨_, _, _, h, by rw [hxv]; exact hrun, grownCase olds es.length hol hoc⟩
            · have hee : e' = e ∧ sz' = sz := by
                rcases hE with hE | hE
                · rw [hE] at hEe; cases hEe
                · rw [hE] at hEe; cases hEe; exact ⟨rfl, rfl⟩
              obtain ⟨rfl, rfl⟩ := hee
              rw [hxv] at hxc
              obtain ⟨olds, hol, holds, hoc, _⟩ := hxc.flat hes
              by_cases hroom : es.length + ys.length ≤ cap
              · -- there is room
                cases X with
                | tmp t =>
                  have hobt : ob (.t t) = some blk := hob1
                  have hrun := run_append_room (P := P) w T ty e' j' h2 h1' blk es.length cap cur hheap ⟨yb, yoff, none⟩ ys.length yc news (by rw [← hsz']; exact hnl) hnews' hn1 hroom (by
                    rw [← hsz', hnl, hcs, ← Nat.add_mul]; exact Nat.mul_le_mul_right _ hroom)
                  rw [← hsz'] at hrun
                  refine ⟨_, _, _, h, by rw [hxv]; exact hrun, ?_⟩
                  have hblt : blk < w.heap.size := (Array.getElem?_eq_some_iff.1 hheap).1
                  have hcurlen : es.length * sz' + news.length ≤ cur.size := by
                    rw [hnl, hcs, ← Nat.add_mul]; exact Nat.mul_le_mul_right _ hroom
                  have hst' := hst.clr t
                  have hold : ∀ o, o < es.length * sz' → (cur.toList.take (es.length * sz') ++ news ++ cur.toList.drop (es.length * sz' + news.length)).toArray[o]? = cur[o]? := fun o ho => by
                    simp only [List.getElem?_toArray, List.append_assoc]
                    rw [List.getElem?_append_left (by simp; omega), List.getElem?_take, if_pos ho, Array.getElem?_toList]
                  have hcellsame : ∀ o, I blk o → (w.setRow blk (cur.toList.take (es.length * sz') ++ news ++ cur.toList.drop (es.length * sz' + news.length)).toArray).cell? ⟨blk, o, none⟩ = w.cell? ⟨blk, o, none⟩ := fun o ho => by
                    rw [cell_setRow_same w blk o cur _ e' (0, 0) hheap, cell_of_row w blk o cur e' (0, 0) hheap]
                    exact hold o (hIb o ho)
                  have hnot : ∀ L, upL ob (.t t) none L ≠ some blk := fun L hL => by
                    simp only [upL] at hL
                    split at hL
                    · cases hL
                    · rename_i hne; exact hne (hst.oinj _ _ blk hL hobt)
                  have hg : w.grownBy (w.setRow blk (cur.toList.take (es.length * sz') ++ news ++ cur.toList.drop (es.length * sz' + news.length)).toArray) (some blk) :=
                    ⟨rfl, rfl, rfl, by simp, fun k _ hk => setRow_other w blk k _ (fun e => hk (by rw [e]))⟩
                  have hst2 := hst'.growRow hg hbb hcellsame hnot (fun i => hst.obx _ blk i hobt) (I' := fun b o => I b o ∨ (b = blk ∧ o < (es.length + ys.length) * sz'))
                    (fun _ _ h => .inl h) (fun b o hb => by rcases hb with hb | hb; exact .inl hb; exact .inr hb.1) (by simpa using hblt)
                  have hmono : ∀ b o, I b o → (I b o ∨ (b = blk ∧ o < (es.length + ys.length) * sz')) ∧
                      (w.setRow blk (cur.toList.take (es.length * sz') ++ news ++ cur.toList.drop (es.length * sz' + news.length)).toArray).cell? ⟨b, o, none⟩ = w.cell? ⟨b, o, none⟩ :=
                    fun b o hb => ⟨.inl hb, hst.keeps hg (fun r e o ho => by cases e; exact hcellsame o ho) b o hb⟩
                  have hnewheap := setRow_heap w blk cur (cur.toList.take (es.length * sz') ++ news ++ cur.toList.drop (es.length * sz' + news.length)).toArray e' (0, 0) hheap
                  have hcur' : (cur.toList.take (es.length * sz') ++ news ++ cur.toList.drop (es.length * sz' + news.length)).toArray.size = cap * sz' := by
                    simp only [List.size_toArray, List.length_append, List.length_take, List.length_drop, Array.length_toList]; omega
                  have hcr : CR (fun b o => I b o ∨ (b = blk ∧ o < (es.length + ys.length) * sz')) (w.setRow blk (cur.toList.take (es.length * sz') ++ news ++ cur.toList.drop (es.length * sz' + news.length)).toArray)
                      (.slice (some ⟨blk, 0, none⟩) (es ++ ys).length cap) (.sl (es ++ ys)) :=
                    CR.row hnewheap (by simpa using hroom) hall (fun q c hq => by
                      have hql := (List.getElem?_eq_some_iff.1 hq).1
                      rw [flatten_length _ hall, List.length_append, Nat.add_mul] at hql
                      refine ⟨by rw [hcur', ← hcs]; omega, ?_⟩
                      rw [flat_eq] at hq
                      by_cases hq1 : q < es.flatten.length
                      · rw [List.getElem?_append_left hq1] at hq
                        obtain ⟨u, hu, hcr⟩ := hoc q c hq
                        have hcell := (holds q u hu).1
                        rw [Nat.zero_add, cell_of_row w blk q cur e' (0, 0) hheap] at hcell
                        rw [Array.getD_eq_getD_getElem?, hold q (by omega), hcell]
                        exact hcr.mono hmono
                      · rw [List.getElem?_append_right (by omega)] at hq
                        obtain ⟨u, hu, hcr⟩ := hnc _ c hq
                        have : (cur.toList.take (es.length * sz') ++ news ++ cur.toList.drop (es.length * sz' + news.length)).toArray[q]? = some u := by
                          simp only [List.getElem?_toArray]
                          have htl : (cur.toList.take (es.length * sz')).length = es.length * sz' := by
                            have hcl : cur.toList.length = cur.size := Array.length_toList
                            rw [List.length_take, hcl]; omega
                          rw [List.getElem?_append_left (by rw [List.length_append, htl]; omega), List.getElem?_append_right (by rw [htl]; omega), ← hu, htl, hfe]
                        rw [Array.getD_eq_getD_getElem?, this]
                        exact hcr.mono hmono) (fun o ho => .inr ⟨rfl, by simpa using ho⟩)
                  have hafter : s.after tr o (.ow (some (e', sz')) (es ++ ys)) = (s.clr t).put o.dst (.ow (some (e', sz')) (es ++ ys)) := by
                    unfold S.after
                    rw [hcon]
                    simp only [S.use]
                    have : (s.fr t).isOw = true := hisOw
                    rw [if_pos this]
                  rw [hafter]
                  cases hdst : o.dst with
                  | none => exact ⟨_, _, _, hst2⟩
                  | some dd =>
                    refine ⟨_, _, _, hst2.put dd (hd dd hdst) (o := some blk) ?_ fun b hb => ?_⟩
                    · have hval : Value.slice (some ⟨blk, 0, none⟩) (es.length + ys.length) cap = Value.slice (some ⟨blk, 0, none⟩) (es ++ ys).length cap := by rw [List.length_append]
                      rw [hval]
                      simp only [LR]
                      refine ⟨hcr, .inr ⟨e', blk, cap, _, sz', rfl, rfl, rfl, hbb, hnewheap, by simpa using hroom, hcm, hcur', hall, fun o ho => ?_⟩⟩
                      rw [List.length_append]
                      rcases ho with ho | ho
                      · have := hIb o ho; rw [Nat.add_mul]; omega
                      · exact ho.2
                    · simp only [Option.some.injEq] at hb
                      subst hb
                      refine ⟨⟨by simpa using hblt, hbb⟩, fun L hL => ?_, fun i => hst.obx _ blk i hobt⟩
                      simp only [upL] at hL
                      split at hL
                      · cases hL
                      · split at hL
                        · cases hL
                        · rename_i h5 h6; exact h6 (hst.oinj _ _ blk hL hobt)
                | _ => cases hob1
              · have hrun := run_append_grow (P := P) w T ty e' j' zv h2 h1' hzv ⟨blk, 0, none⟩ es.length cap olds (by rw [← hsz']; exact hol) (fun q u hq => by rw [Addr.add_lit]; exact (holds q u hq).1)
                  ⟨yb, yoff, none⟩ ys.length yc news (by rw [← hsz']; exact hnl) hnews' (by omega) (by omega) (by rw [← hby']; exact growslice_fits (by omega) hb)
                exact ⟨_, _, _, h, by rw [hxv]; exact hrun, grownCase olds cap hol hoc⟩
        · exact h.elim
      · cases hz'
    · exact h.elim
  · exact h.elim

theorem mem_zeroCells {z : Array Value} {m : Nat} {u : Value} (h : u ∈ Builtin.zeroCells z m) : u ∈ z := by
  unfold Builtin.zeroCells at h
  simp only [Array.mem_map, Array.mem_range] at h
  obtain ⟨i, hi, rfl⟩ := h
  have hz : 0 < z.size := Nat.pos_of_ne_zero fun h => by rw [h] at hi; simp at hi
  have hlt : i % z.size < z.size := Nat.mod_lt _ hz
  rw [getElem!_pos z _ hlt]
  exact Array.getElem_mem hlt

/-- What is appended to a slice without room of its own. -/
theorem vappNew_sound {T ty : TypeId} {vx vy : Value} {ox : Option Nat} {es : List (List C)} {d : Option Tmp} {K : S → Prop} (hst : St G n I0 M w0 I β ob s a w)
    (hx : LR (Wr M w0) I β w ox vx (.ow none es)) (h : vappend P T (.ow none es) y (vanK s d K)) (hy : ∀ ys, y = .c (.sl ys) → RD I w vy ys) :
    ∃ (e : TypeId) (sz : Nat) (es' : List (List C)) (cells : Array Value) (cap : Nat), K ({ s with bx := up s.bx s.nb (es'.flatten.map .c), nb := s.nb + 1 }.put d (.ms s.nb 0 es'.length es'.length sz)) ∧
      (Builtin.append_ #[T, T] ty #[vx, vy]).run P w = .ok (.slice (some ⟨w.heap.size, 0, none⟩) es'.length cap) (w.drew.alloc (.cells cells e)) ∧ es'.length ≤ cap ∧ es'.flatten.length ≤ cells.size ∧
      (∀ q c, es'.flatten[q]? = some c → CR I w (cells.getD q undef) c) ∧ (∀ u ∈ cells, u.oneCell' = true) := by
  unfold vappend at h
  split at h
  · rename_i e _ _ _ _ _ _ E es1 hi hev
    cases hev
    obtain ⟨j, d, h1, h2, h3, _⟩ := ti_spec hi
    have hd' := kdOf_slice h3
    subst hd'
    split at h
    · rename_i sz by_ _ z _ _ hje
      obtain ⟨j', d', h1', h2', _, hsz', hby', _, hz', _⟩ := ti_spec hje
      simp only at hz' hsz' hby'
      obtain ⟨⟨hp, hzl, hE, hes⟩, h⟩ := h
      split at hz'
      · rename_i zv hzv
        split at h
        · rename_i ys
          obtain ⟨⟨hb, hlen, hys⟩, h⟩ := h
          by_cases hys0 : ys = []
          · subst hys0
            simp only [List.isEmpty_nil, if_true] at h
            exact h.elim
          have hie : ys.isEmpty = false := by simpa using hys0
          simp only [hie, Bool.false_eq_true, if_false] at h
          have hcy := hy _ rfl
          have hzc := zero_ok (I := I) (w := w) hz'.symm
          have hzsz : zv.cells.size = sz := by rw [hzc.1, hzl]
          obtain ⟨vsl, hvy⟩ : ∃ (p : Option Addr × Nat), vy = .slice p.1 ys.length p.2 := by
            rcases hcy with ⟨h0, h1⟩ | ⟨b, off, cap, _, _, hv, _⟩
            · obtain ⟨a0, c0, h0, _⟩ := h0; exact ⟨(a0, c0), by rw [h0, h1]; rfl⟩
            · exact ⟨(some ⟨b, off, none⟩, cap), hv⟩
          obtain ⟨ya, yc⟩ := vsl
          simp only at hvy
          subst hvy
          have hxo := hx.2
          have hxc := hx.1
          obtain ⟨yb, yoff, rfl⟩ := hcy.some' hys0
          obtain ⟨news, hnl, hnews, hnc, hn1⟩ := hcy.flat hys
          have hnews' : ∀ (q : Nat) (u : Value), news[q]? = some u → w.cell? ((⟨yb, yoff, none⟩ : Addr).add q) = some u := fun q u hq => by rw [Addr.add_lit]; exact (hnews q u hq).1
          have hm0 : 0 < ys.length := List.length_pos_iff.2 hys0
          have hall : ∀ x ∈ es ++ ys, x.length = sz := fun x hx => by rcases List.mem_append.1 hx with hx | hx; exact hes x hx; exact hys x hx
          have hmax : es.length + ys.length ≤ maxLen := by unfold maxLen; omega
          have flat_eq : (es ++ ys).flatten = es.flatten ++ ys.flatten := by simp
          have hfe := flatten_length es hes
          have hfa := flatten_length (es ++ ys) hall
          have zone : ∀ u ∈ zv.cells, u.oneCell' = true := fun u hu => by
            obtain ⟨q, hq, rfl⟩ := Array.mem_iff_getElem.1 hu
            have hql : q < z.length := by rw [← hzc.1]; exact hq
            have := (hzc.2 q _ (List.getElem?_eq_getElem hql)).oneCell
            simpa [Array.getElem?_eq_getElem hq, hq] using this
          have fin : ∀ (olds : List Value) (cap0 : Nat), olds.length = es.length * sz → (∀ (q : Nat) (c : C), es.flatten[q]? = some c → ∃ u, olds[q]? = some u ∧ CR I w u c) → (∀ u ∈ olds, u.oneCell' = true) →
              (Builtin.append_ #[T, T] ty #[vx, .slice (some ⟨yb, yoff, none⟩) ys.length yc]).run P w = .ok (.slice (some ⟨w.heap.size, 0, none⟩) (es.length + ys.length) (grownCap w (es.length + ys.length) cap0 e))
                  (w.drew.alloc (.cells (olds.toArray ++ news.toArray ++ Builtin.zeroCells zv.cells (grownCap w (es.length + ys.length) cap0 e - (es.length + ys.length))) e)) →
              ∃ (e : TypeId) (sz : Nat) (es' : List (List C)) (cells : Array Value) (cap : Nat), K ({ s with bx := up s.bx s.nb (es'.flatten.map .c), nb := s.nb + 1 }.put ‹Option Tmp› (.ms s.nb 0 es'.length es'.length sz)) ∧
                (Builtin.append_ #[T, T] ty #[vx, .slice (some ⟨yb, yoff, none⟩) ys.length yc]).run P w = .ok (.slice (some ⟨w.heap.size, 0, none⟩) es'.length cap) (w.drew.alloc (.cells cells e)) ∧ es'.length ≤ cap ∧ es'.flatten.length ≤ cells.size ∧
                (∀ q c, es'.flatten[q]? = some c → CR I w (cells.getD q undef) c) ∧ (∀ u ∈ cells, u.oneCell' = true) := by
            intro olds cap0 hol hoc ho1 hrun
            have hge := grownCap_ge w (es.length + ys.length) cap0 e
            refine ⟨e, sz, es ++ ys, _, _, h, by rw [List.length_append]; exact hrun, by rw [List.length_append]; exact hge, ?_, fun q c hq => ?_, fun u hu => ?_⟩
            · rw [hfa, List.length_append]
              simp only [Array.size_append, List.size_toArray, hol, hnl, ← Nat.add_mul]
              omega
            · rw [flat_eq] at hq
              have hget : ∃ u, (olds ++ news)[q]? = some u ∧ CR I w u c := by
                by_cases hql : q < es.flatten.length
                · rw [List.getElem?_append_left hql] at hq
                  obtain ⟨u, hu, hcr⟩ := hoc q c hq
                  exact ⟨u, by rw [List.getElem?_append_left (by omega)]; exact hu, hcr⟩
                · rw [List.getElem?_append_right (by omega)] at hq
                  obtain ⟨u, hu, hcr⟩ := hnc _ c hq
                  refine ⟨u, ?_, hcr⟩
                  rw [List.getElem?_append_right (by omega), ← hu]
                  congr 1; omega
              obtain ⟨u, hu, hcr⟩ := hget
              rw [getD_append_zeros olds news _ q u hu]; exact hcr
            · simp only [Array.mem_append, List.mem_toArray] at hu
              rcases hu with (hu | hu) | hu
              · exact ho1 u hu
              · exact hn1 u hu
              · exact zone u (mem_zeroCells hu)
          rcases hxo with ⟨hob0, _, xa, hxv⟩ | ⟨e', blk, cap, cur, sz', hob1, hEe, _⟩
          · cases xa with
            | none =>
              have hes0 : es = [] := by
                rcases hxc.sl_inv with ⟨_, h1⟩ | ⟨b, off, cap, _, _, hv, _⟩
                · exact h1
                · rw [hxv] at hv; cases hv
              subst hes0
              have hrun := run_append_nil (P := P) w T ty e j' zv h2 h1' hzv ⟨yb, yoff, none⟩ ys.length yc news (by rw [← hsz']; exact hnl) hnews' hm0 (by simp only [List.length_nil, Nat.zero_add] at hlen; omega) (by rw [← hby']; simp only [List.length_nil, Nat.zero_add] at hb; omega)
              refine fin [] 0 (by simp) (by simp) (by simp) ?_
              rw [hxv]
              simpa using hrun
            | some xaddr =>
              rw [hxv] at hxc
              obtain ⟨olds, hol, holds, hoc, ho1⟩ := hxc.oldsOf hes
              have hrun := run_append_grow (P := P) w T ty e j' zv h2 h1' hzv xaddr es.length es.length olds (by rw [← hsz']; exact hol) holds
                ⟨yb, yoff, none⟩ ys.length yc news (by rw [← hsz']; exact hnl) hnews' (by omega) (by omega) (by rw [← hby']; exact growslice_fits (by omega) hb)
              exact fin olds es.length hol hoc ho1 (by rw [hxv]; exact hrun)
          · cases hEe
        · exact h.elim
      · cases hz'
    · exact h.elim
  · exact h.elim

end
end Go.Vl

/- Values without memory: the operations keep the relation: slicing, conversions, calls. -/
namespace Go.Vl
open Go Go.RowKit

section
variable {P : Program} {G : Gl} {tr : List Nat} {n : Nat} {I0 : Ft} {M : Mx} {w0 : World} {I : Ft} {β : Nat → Option Nat} {ob : Loc → Option Nat} {s : S} {a : Act} {w : World} {o : Oper}
  {next : Act → World → Prop} {Q : Exit → Act → World → Prop} {base : Nat → Prop} {v : Value} {x y : V} {K : V → Prop}

theorem run_bounds (isSlice : Bool) (len cap : Nat) (lo hi : Option Value) (l h : Int) (hl : (lo = none ∧ l = 0) ∨ ∃ k, lo = some (.int k l)) (hh : (hi = none ∧ h = len) ∨ ∃ k, hi = some (.int k h))
    (h0 : 0 ≤ l) (h1 : l ≤ h) (h2 : h ≤ len) (hc : len ≤ cap) : (Instr.sliceBounds isSlice len cap lo hi none).run P w = .ok (l.toNat, h.toNat, cap) w := by
  have eh : (h.toNat : Int) = h := Int.toNat_of_nonneg (by omega)
  unfold Instr.sliceBounds
  have e0 : (0:Int) ≤ h := by omega
  have e1 : h ≤ (cap : Int) := by omega
  rcases hl with ⟨rfl, rfl⟩ | ⟨kl, rfl⟩ <;> rcases hh with ⟨rfl, rfl⟩ | ⟨kh, rfl⟩ <;>
    simp [run_sliceBound, h0, h1, eh, e0, e1]

theorem run_bounds3 (isSlice : Bool) (len cap : Nat) (lo hi : Option Value) (l h : Int) (km : IntKind) (hl : (lo = none ∧ l = 0) ∨ ∃ k, lo = some (.int k l)) (hh : ∃ k, hi = some (.int k h))
    (h0 : 0 ≤ l) (h1 : l ≤ h) (h2 : h ≤ cap) : (Instr.sliceBounds isSlice len cap lo hi (some (.int km h))).run P w = .ok (l.toNat, h.toNat, h.toNat) w := by
  have eh : (h.toNat : Int) = h := Int.toNat_of_nonneg (by omega)
  unfold Instr.sliceBounds
  have e0 : (0:Int) ≤ h := by omega
  rcases hl with ⟨rfl, rfl⟩ | ⟨kl, rfl⟩ <;> obtain ⟨kh, rfl⟩ := hh <;> simp [run_sliceBound, h0, h1, h2, eh, e0]

theorem run_boundsC (len cap : Nat) (lo hi : Option Value) (l h : Int) (hl : (lo = none ∧ l = 0) ∨ ∃ k, lo = some (.int k l)) (hh : (hi = none ∧ h = len) ∨ ∃ k, hi = some (.int k h))
    (h0 : 0 ≤ l) (h1 : l ≤ h) (h2 : h ≤ cap) : (Instr.sliceBounds true len cap lo hi none).run P w = .ok (l.toNat, h.toNat, cap) w := by
  have eh : (h.toNat : Int) = h := Int.toNat_of_nonneg (by omega)
  unfold Instr.sliceBounds
  have e0 : (0:Int) ≤ h := by omega
  rcases hl with ⟨rfl, rfl⟩ | ⟨kl, rfl⟩ <;> rcases hh with ⟨rfl, rfl⟩ | ⟨kh, rfl⟩ <;>
    simp [run_sliceBound, h0, h1, h2, eh, e0]

theorem run_boundsM (len cap : Nat) (lo hi : Option Value) (l h m : Int) (km : IntKind) (hl : (lo = none ∧ l = 0) ∨ ∃ k, lo = some (.int k l)) (hh : ∃ k, hi = some (.int k h))
    (h0 : 0 ≤ l) (h1 : l ≤ h) (h2 : h ≤ m) (h3 : m ≤ cap) : (Instr.sliceBounds true len cap lo hi (some (.int km m))).run P w = .ok (l.toNat, h.toNat, m.toNat) w := by
  have eh : (h.toNat : Int) = h := Int.toNat_of_nonneg (by omega)
  have em : (m.toNat : Int) = m := Int.toNat_of_nonneg (by omega)
  unfold Instr.sliceBounds
  have e0 : (0:Int) ≤ h := by omega
  have e2 : (0:Int) ≤ m := by omega
  rcases hl with ⟨rfl, rfl⟩ | ⟨kl, rfl⟩ <;> obtain ⟨kh, rfl⟩ := hh <;>
    simp [run_sliceBound, h0, h1, h2, h3, eh, em, e0, e2]

/-- The bounds of a slice expression. -/
theorem opt_ok (hst : St G n I0 M w0 I β ob s a w) {d : Int} {lo : Option Operand} {l : Int} (h : optInt d (lo.map (ev G s)) = some l) : (lo.map a.eval = none ∧ l = d) ∨ ∃ k, lo.map a.eval = some (.int k l) := by
  cases lo with
  | none => simp [optInt] at h; exact .inl ⟨rfl, h.symm⟩
  | some x =>
    have hx := ev_sound hst x
    simp only [Option.map_some, optInt] at h
    split at h
    · cases ‹some _ = none›
    · rename_i k m he
      simp only [Option.some.injEq] at he h
      subst h
      rw [he] at hx
      exact .inr ⟨k, by rw [Option.map_some, hx.lit]⟩
    · cases h

theorem chunks_get {sz : Nat} : ∀ (m : Nat) (cs : List C) (i : Nat), i < m → (chunks sz m cs)[i]? = some ((cs.drop (i * sz)).take sz)
  | 0, _, i, h => by omega
  | m + 1, cs, 0, _ => by simp [chunks]
  | m + 1, cs, i + 1, h => by
    simp only [chunks, List.getElem?_cons_succ]
    rw [chunks_get m _ i (by omega), List.drop_drop]
    congr 3
    rw [Nat.succ_mul]; omega

theorem chunks_length {sz : Nat} : ∀ (m : Nat) (cs : List C), (chunks sz m cs).length = m
  | 0, _ => rfl
  | m + 1, cs => by simp [chunks, chunks_length m]

theorem view_ok (hst : St G n I0 M w0 I β ob s a w) {i off len cap sz : Nat} {c : C} {v : Value} (h : viewC s i off len sz = some c)
    (hx : len ≤ cap ∧ ∃ blk off' cap', cap ≤ cap' ∧ β i = some blk ∧ (cap' = 0 ∨ off' = off) ∧ v = .slice (some ⟨blk, off', none⟩) len cap') :
    ∃ (es : List (List C)) (blk off' cap' : Nat) (f : Nat → Nat → Value), c = .sl es ∧ v = .slice (some ⟨blk, off', none⟩) es.length cap' ∧ es.length ≤ cap' ∧ β i = some blk ∧ (∀ e ∈ es, e.length = sz) ∧
      (∀ p q, p < es.length → q < sz → w.cell? ⟨blk, off' + p * sz + q, none⟩ = some (f p q)) ∧ (∀ p q e c, es[p]? = some e → e[q]? = some c → CR I w (f p q) c) := by
  unfold viewC at h
  split at h
  · rename_i cs hcs
    split at h
    · rename_i hfit
      simp only [Option.some.injEq] at h
      obtain ⟨hcap, blk, off', cap', hcc, e1, hoff, rfl⟩ := hx
      unfold boxC at hcs
      split at hcs
      · rename_i hi
        obtain ⟨blk', cur, q1, q2, q3, q4, q5, q7⟩ := hst.bx i hi
        obtain ⟨T, q3, q6⟩ := q3.cells (isMb_of_asC hcs)
        rw [e1] at q1; cases q1
        have hlen : cs.length = (s.bx i).length := List.mapM_eq_some_length hcs
        have hl := chunks_length (sz := sz) len (cs.drop off)
        refine ⟨_, blk, off', cap', fun p q => cur.getD (off + p * sz + q) undef, h.symm, by rw [hl], by rw [hl]; omega, e1, fun e he => ?_, fun p q hp hq => ?_, fun p q e c' he hc => ?_⟩
        · obtain ⟨p, hp, rfl⟩ := List.mem_iff_getElem.1 he
          have := chunks_get (sz := sz) len (cs.drop off) p (by omega)
          rw [List.getElem?_eq_getElem hp] at this
          simp only [Option.some.injEq] at this
          rw [this]
          have hm' : (p + 1) * sz ≤ len * sz := Nat.mul_le_mul_right _ (by omega)
          rw [Nat.succ_mul] at hm'
          simp; omega
        · rw [hl] at hp
          have hm' : (p + 1) * sz ≤ len * sz := Nat.mul_le_mul_right _ (by omega)
          rw [Nat.succ_mul] at hm'
          have : off' = off := by rcases hoff with h0 | h0; omega; exact h0
          subst this
          have hlt : off' + p * sz + q < cur.size := by omega
          rw [cell_of_row w blk _ cur T (0, 0) q3]
          simp [Array.getElem?_eq_getElem hlt]
        · have hp : p < len := by have := (List.getElem?_eq_some_iff.1 he).1; omega
          rw [chunks_get len _ p hp] at he
          simp only [Option.some.injEq] at he
          subst he
          rw [List.getElem?_take] at hc
          split at hc
          · rw [List.getElem?_drop, List.getElem?_drop] at hc
            obtain ⟨vv, hvv, hvc⟩ := List.mapM_eq_some_get hcs _ c' hc
            have hlr := q5 (off + (p * sz + q))
            have : (s.bx i).getD (off + (p * sz + q)) .un = vv := by simp [List.getD, hvv]
            rw [this, ← Nat.add_assoc] at hlr
            cases vv <;> simp only [V.asC] at hvc <;> try cases hvc
            · exact hlr.toC
            · exact hlr.1
          · cases hc
      · cases hcs
    · cases h
  · cases h

theorem view_rd (hst : St G n I0 M w0 I β ob s a w) {i off len cap sz : Nat} {c : C} {v : Value} (h : viewC s i off len sz = some c)
    (hx : len ≤ cap ∧ ∃ blk off' cap', cap ≤ cap' ∧ β i = some blk ∧ (cap' = 0 ∨ off' = off) ∧ v = .slice (some ⟨blk, off', none⟩) len cap') : ∃ es, c = .sl es ∧ RD I w v es := by
  obtain ⟨es, blk, off', cap', f, rfl, rfl, h2, h3, h4, h5, h6⟩ := view_ok hst h hx
  exact ⟨es, rfl, .inr ⟨blk, off', cap', sz, f, rfl, h2, h4, h5, h6⟩⟩

theorem view_cr (hst : St G n I0 M w0 I β ob s a w) {i off len cap sz : Nat} {c : C} {v : Value} (h : viewC s i off len sz = some c)
    (hx : len ≤ cap ∧ ∃ blk off' cap', cap ≤ cap' ∧ β i = some blk ∧ (cap' = 0 ∨ off' = off) ∧ v = .slice (some ⟨blk, off', none⟩) len cap') {Ic : Ft} (hIc : ∀ b o, I b o → Ic b o) (hb : ∀ b o, β i = some b → Ic b o) : CR Ic w v c := by
  obtain ⟨es, blk, off', cap', f, rfl, rfl, h2, h3, h4, h5, h6⟩ := view_ok hst h hx
  exact .sl blk off' cap' sz es f h2 h4 (fun p q hp hq => ⟨h5 p q hp hq, hb blk _ h3⟩) (fun p q e c he hc => (h6 p q e c he hc).mono fun b o h => ⟨hIc b o h, rfl⟩)

theorem vslice_sound {T : TypeId} {lo hi mx : Option Operand} {vx : Value} {ox : Option Nat} (hst : St G n I0 M w0 I β ob s a w) (h : vslice P T x (lo.map (ev G s)) (hi.map (ev G s)) (mx.map (ev G s)) K) (hx : LR (Wr M w0) I β w ox vx x) :
    ∃ z u, K z ∧ LR (Wr M w0) I β w none u z ∧ (Instr.sliceAt T vx (lo.map a.eval) (hi.map a.eval) (mx.map a.eval)).run P w = .ok u w := by
  unfold vslice at h
  split at h
  · rename_i st hi'
    obtain ⟨j, d, h1, h2, h3, _⟩ := ti_spec hi'
    have hd := kdOf_str h3
    subst hd
    rw [hx.lit]
    split at h
    · rename_i l hh hl hhh hm
      obtain ⟨⟨h0, h01, h02⟩, h⟩ := h
      have hmx : mx.map a.eval = none := by cases mx <;> simp_all
      refine ⟨_, _, h, .ofLit rfl, ?_⟩
      unfold Instr.sliceAt
      simp only [Sem.run_bind, run_underlying h2, Result.andThen_ok]
      unfold Instr.slice
      simp only [Sem.run_bind, run_underlying h2, Result.andThen_ok, hmx]
      simp [run_bounds (P := P) (w := w) false st.size st.size _ _ l hh (opt_ok hst hl) (opt_ok hst hhh) h0 h01 h02 (Nat.le_refl _)]
    · exact h.elim
  · rename_i e _ _ _ _ _ _ es hi'
    obtain ⟨j, d, h1, h2, h3, _⟩ := ti_spec hi'
    have hd := kdOf_slice h3
    subst hd
    have hcr := hx.toC
    split at h
    · rename_i hm
      split at h
      case h_2 => exact h.elim
      rename_i ie l hh hie hl hhh
      obtain ⟨j', d', h1', h2', _, hsz', _⟩ := ti_spec hie
      obtain ⟨⟨h0, h01, h02, hs⟩, h⟩ := h
      have hmx : mx.map a.eval = none := by cases mx <;> simp_all
      have hb := fun cap hc => run_bounds (P := P) (w := w) true es.length cap _ _ l hh (opt_ok hst hl) (opt_ok hst hhh) h0 h01 h02 hc
      have hsize := run_sizeOf (P := P) w h1'
      rcases hcr.sl_inv with ⟨⟨xa, xc, hv, hxc⟩, rfl⟩ | ⟨b, off, cap, sz, f, hv, hcap, _⟩
      · simp only [List.length_nil] at h02
        have : l = 0 ∧ hh = 0 := by omega
        obtain ⟨rfl, rfl⟩ := this
        refine ⟨_, .slice xa 0 xc, h, .ofC (by simpa using CR.nil xa xc hxc), ?_⟩
        subst hv
        unfold Instr.sliceAt
        simp only [Sem.run_bind, run_underlying h2, Result.andThen_ok]
        unfold Instr.slice
        simp only [Sem.run_bind, run_underlying h2, Result.andThen_ok, hmx]
        have := hb xc (by simp)
        simp only [List.length_nil] at this
        cases xa with
        | none => obtain rfl := hxc rfl; simp [this, hsize]
        | some xa => simp [this, hsize, Addr.add]
      · subst hv
        refine ⟨_, .slice (some (if cap = l.toNat then ⟨b, off, none⟩ else ⟨b, off + l.toNat * ie.size, none⟩)) (hh.toNat - l.toNat) (cap - l.toNat), h, .ofC ?_, ?_⟩
        · split
          · rename_i hcl
            have : (es.take hh.toNat).drop l.toNat = ([] : List (List C)) := List.eq_nil_of_length_eq_zero (by simp; omega)
            rw [this]
            have e1 : hh.toNat - l.toNat = 0 := by omega
            have e2 : cap - l.toNat = 0 := by omega
            rw [e1, e2]
            exact .sl b off 0 0 [] (fun _ _ => undef) (Nat.le_refl _) (by simp) (by simp) (by simp)
          · exact hcr.subslice hs (by omega) (by omega) (by omega)
        · unfold Instr.sliceAt
          simp only [Sem.run_bind, run_underlying h2, Result.andThen_ok]
          unfold Instr.slice
          simp only [Sem.run_bind, run_underlying h2, Result.andThen_ok, hmx, hb cap hcap, hsize, Sem.run_pure, cellsOf_eq h1', ← hsz']
          split <;> simp_all [Addr.add_lit]
    · rename_i km mm hm
      split at h
      · rename_i ie l khh hh hie hl hhh
        obtain ⟨j', d', h1', h2', _, hsz', _⟩ := ti_spec hie
        obtain ⟨⟨h0, h01, h02, rfl, hs⟩, h⟩ := h
        obtain ⟨km', hmx⟩ : ∃ k, mx.map a.eval = some (.int k mm) := by
          rcases mx with _ | X
          · simp at hm
          · have hX := ev_sound hst X
            simp only [Option.map_some, Option.some.injEq] at hm
            rw [hm] at hX
            exact ⟨km, by rw [Option.map_some, hX.lit]⟩
        have hhi : ∃ k, hi.map a.eval = some (.int k mm) := by
          rcases hi with _ | X
          · simp at hhh
          · have hX := ev_sound hst X
            simp only [Option.map_some, Option.some.injEq] at hhh
            rw [hhh] at hX
            exact ⟨khh, by rw [Option.map_some, hX.lit]⟩
        have hb := fun cap hc => run_bounds3 (P := P) (w := w) true es.length cap _ _ l mm km' (opt_ok hst hl) hhi h0 h01 hc
        have hsize := run_sizeOf (P := P) w h1'
        rcases hcr.sl_inv with ⟨⟨xa, xc, hv, hxc⟩, rfl⟩ | ⟨b, off, cap, sz, f, hv, hcap, _⟩
        · simp only [List.length_nil] at h02
          have : l = 0 ∧ mm = 0 := by omega
          obtain ⟨rfl, rfl⟩ := this
          refine ⟨_, .slice xa 0 0, h, ⟨by simpa using CR.nil xa 0 (fun _ => rfl), .inl ⟨rfl, rfl, xa, by simp⟩⟩, ?_⟩
          subst hv
          unfold Instr.sliceAt
          simp only [Sem.run_bind, run_underlying h2, Result.andThen_ok]
          unfold Instr.slice
          simp only [Sem.run_bind, run_underlying h2, Result.andThen_ok, hmx]
          have := hb xc (by simp)
          simp only [List.length_nil] at this
          cases xa with
          | none => obtain rfl := hxc rfl; simp [this, hsize]
          | some xa => simp [this, hsize, Addr.add]
        · subst hv
          have hlen : ((es.take mm.toNat).drop l.toNat).length = mm.toNat - l.toNat := by simp; omega
          refine ⟨_, .slice (some (if mm.toNat = l.toNat then ⟨b, off, none⟩ else ⟨b, off + l.toNat * ie.size, none⟩)) (mm.toNat - l.toNat) (mm.toNat - l.toNat), h, ⟨?_, .inl ⟨rfl, rfl, _, by rw [hlen]⟩⟩, ?_⟩
          · split
            · rename_i hcl
              have : (es.take mm.toNat).drop l.toNat = ([] : List (List C)) := List.eq_nil_of_length_eq_zero (by simp; omega)
              rw [this]
              have e1 : mm.toNat - l.toNat = 0 := by omega
              rw [e1]
              exact .sl b off 0 0 [] (fun _ _ => undef) (Nat.le_refl _) (by simp) (by simp) (by simp)
            · exact hcr.subslice hs (by omega) (by omega) (by omega)
          · unfold Instr.sliceAt
            simp only [Sem.run_bind, run_underlying h2, Result.andThen_ok]
            unfold Instr.slice
            simp only [Sem.run_bind, run_underlying h2, Result.andThen_ok, hmx, hb cap (by omega), hsize, Sem.run_pure, cellsOf_eq h1', ← hsz']
            split <;> simp_all [Addr.add_lit]
      · exact h.elim
    · exact h.elim
  · rename_i e _ _ _ _ _ _ b off len cap sz hi'
    obtain ⟨j, d, h1, h2, h3, _⟩ := ti_spec hi'
    have hd := kdOf_slice h3
    subst hd
    split at h
    · rename_i ie l hh mm hie hl hhh hmm
      obtain ⟨j', d', h1', h2', _, hsz', _⟩ := ti_spec hie
      obtain ⟨⟨hsz, h0, h01, h02, h03, h04⟩, h⟩ := h
      simp only [LR] at hx
      obtain ⟨hcap, blk, off', cap', hcc, e1, hoff, rfl⟩ := hx
      have hsize := run_sizeOf (P := P) w h1'
      have hb : ∃ M : Nat, mm ≤ (M : Int) ∧ M ≤ cap' ∧ (Instr.sliceBounds true len cap' (lo.map a.eval) (hi.map a.eval) (mx.map a.eval)).run P w = .ok (l.toNat, hh.toNat, M) w := by
        rcases opt_ok hst hmm with ⟨e, rfl⟩ | ⟨km, e⟩
        · refine ⟨cap', by omega, Nat.le_refl _, ?_⟩
          rw [e]
          have := run_boundsC (P := P) (w := w) len cap' _ _ l hh (opt_ok hst hl) (opt_ok hst hhh) h0 h01 (by omega)
          simpa using this
        · refine ⟨mm.toNat, by omega, by omega, ?_⟩
          rw [e]
          have hhi : ∃ k, hi.map a.eval = some (.int k hh) := by
            rcases opt_ok hst hhh with ⟨e5, _⟩ | h5
            · cases mx with
              | none => cases e
              | some X => have := h04 rfl; cases hi <;> simp_all
            · exact h5
          exact run_boundsM (P := P) (w := w) len cap' _ _ l hh mm km (opt_ok hst hl) hhi h0 h01 h02 (by omega)
      obtain ⟨M, hM1, hM2, hb⟩ := hb
      refine ⟨_, .slice (some (if M = l.toNat then ⟨blk, off', none⟩ else ⟨blk, off' + l.toNat * ie.size, none⟩)) (hh.toNat - l.toNat) (M - l.toNat), h, ?_, ?_⟩
      · simp only [LR]
        split
        · exact ⟨by omega, blk, off', M - l.toNat, by omega, e1, .inl (by omega), rfl⟩
        · have : off' = off := by rcases hoff with h4 | h4; omega; exact h4
          exact ⟨by omega, blk, _, M - l.toNat, by omega, e1, .inr (by rw [this, hsz]), rfl⟩
      · unfold Instr.sliceAt
        simp only [Sem.run_bind, run_underlying h2, Result.andThen_ok]
        unfold Instr.slice
        simp only [Sem.run_bind, run_underlying h2, Result.andThen_ok, hb, hsize, Sem.run_pure, cellsOf_eq h1', ← hsz']
        split <;> simp_all [Addr.add_lit]
    · exact h.elim
  · rename_i m e _ _ _ _ _ _ cs k hi'
    obtain ⟨j, d, h1, h2, h3, _⟩ := ti_spec hi'
    have hd := kdOf_arr h3
    subst hd
    obtain ⟨b, off, f, rfl, hcell, hrel⟩ := hx.toC.rp_inv
    split at h
    · rename_i ie hie hl hh hm
      obtain ⟨j', d', h1', h2', _, hsz', _⟩ := ti_spec hie
      obtain ⟨hle, h⟩ := h
      have e1 : lo.map a.eval = none := by cases lo <;> simp_all
      have e2 : hi.map a.eval = none := by cases hi <;> simp_all
      have e3 : mx.map a.eval = none := by cases mx <;> simp_all
      have hsize := run_sizeOf (P := P) w h1'
      refine ⟨_, .slice (some ⟨b, off + k, none⟩) m m, h, .ofC ?_, ?_⟩
      · have hcl := chunks_length (sz := ie.size) m (cs.drop k)
        have hidx : ∀ i q, i < m → q < ie.size → k + i * ie.size + q < cs.length := fun i q hi hq => by
          have : (i + 1) * ie.size ≤ m * ie.size := Nat.mul_le_mul_right _ hi
          rw [Nat.succ_mul] at this; omega
        have hmem : ∀ x ∈ chunks ie.size m (cs.drop k), x.length = ie.size := fun x hx => by
          obtain ⟨i, hi, he⟩ := List.mem_iff_getElem.1 hx
          have := chunks_get (sz := ie.size) m (cs.drop k) i (by omega)
          rw [List.getElem?_eq_getElem hi] at this
          simp only [Option.some.injEq] at this
          rw [← he, this]
          have hm' : (i + 1) * ie.size ≤ m * ie.size := Nat.mul_le_mul_right _ (by omega)
          rw [Nat.succ_mul] at hm'
          simp; omega
        have := CR.sl (I := I) (w := w) b (off + k) m ie.size (chunks ie.size m (cs.drop k)) (fun i q => f (k + i * ie.size + q)) (by omega) hmem
          (fun i q hi hq => by
            have := hcell (k + i * ie.size + q) (hidx i q (by omega) hq)
            rw [show off + k + i * ie.size + q = off + (k + i * ie.size + q) by omega]
            exact this)
          (fun i q e c he hc => by
            have hi : i < m := by have := (List.getElem?_eq_some_iff.1 he).1; omega
            rw [chunks_get m _ i hi] at he
            simp only [Option.some.injEq] at he
            subst he
            rw [List.getElem?_take] at hc
            split at hc
            · rw [List.getElem?_drop, List.getElem?_drop] at hc
              exact hrel _ c (by rw [Nat.add_assoc]; exact hc)
            · cases hc)
        rw [hcl] at this
        exact this
      · unfold Instr.sliceAt
        simp only [Sem.run_bind, run_underlying h2, Result.andThen_ok, Instr.sureAddr, Sem.run_pure, e1, e2, e3]
        have := run_bounds (P := P) (w := w) false m m none none 0 m (.inl ⟨rfl, rfl⟩) (.inl ⟨rfl, rfl⟩) (Int.le_refl _) (by omega) (Int.le_refl _) (Nat.le_refl _)
        simp only [this, Result.andThen_ok, hsize, Sem.run_bind, Sem.run_pure]
        simp [Addr.add_lit]
    · exact h.elim
  · exact h.elim

end
end Go.Vl

/- Values without memory: the operations keep the relation: conversions, calls; all of them. -/
namespace Go.Vl
open Go Go.RowKit

section
variable {P : Program} {G : Gl} {tr : List Nat} {n : Nat} {I0 : Ft} {M : Mx} {w0 : World} {I : Ft} {β : Nat → Option Nat} {ob : Loc → Option Nat} {s : S} {a : Act} {w : World} {o : Oper}
  {next : Act → World → Prop} {Q : Exit → Act → World → Prop} {base : Nat → Prop} {v : Value} {x y : V} {K : V → Prop}

theorem bytesOf_spec : ∀ (es : List (List C)) (l : List UInt8), bytesOf es = some l → es.length = l.length ∧
    ∃ ns : List Int, ns.length = l.length ∧ l = ns.map (fun m => UInt8.ofNat m.toNat) ∧ ∀ (i : Nat) (m : Int), ns[i]? = some m → es[i]? = some [.lit (.int .u8 m)]
  | [], l, h => by
    simp only [bytesOf, Option.some.injEq] at h
    subst h
    exact ⟨rfl, [], rfl, rfl, by simp⟩
  | e :: es, l, h => by
    unfold bytesOf at h
    split at h
    · cases ‹_ :: _ = []›
    · rename_i m r he
      cases he
      simp only [Option.map_eq_some_iff] at h
      obtain ⟨l', h1, rfl⟩ := h
      obtain ⟨h2, ns, h3, h4, h5⟩ := bytesOf_spec _ _ h1
      refine ⟨by simp [h2], m :: ns, by simp [h3], by simp [h4], fun i q hq => ?_⟩
      cases i with
      | zero => simp at hq; subst hq; rfl
      | succ i => exact h5 i q (by simpa using hq)
    · cases h

theorem foldl_push_ints : ∀ (ns : List Int) (r : ByteArray), ns.foldl (fun r m => r.push (UInt8.ofNat m.toNat)) r = ⟨r.data ++ (ns.map fun m => UInt8.ofNat m.toNat).toArray⟩
  | [], r => by simp
  | m :: ns, r => by
    simp only [List.foldl_cons]
    rw [foldl_push_ints ns]
    simp [ByteArray.push]

theorem vconv_sound {src dst : TypeId} {vx : Value} (hst : St G n I0 M w0 I β ob s a w) (hd : ∀ d, o.dst = some d → d < n) (h : vconv P src dst x K) (hx : (∃ ox, LR (Wr M w0) I β w ox vx x) ∨ ∃ es, x = .c (.sl es) ∧ RD I w vx es) :
    ∃ z u w', K z ∧ (convert src dst vx).run P w = .ok u w' ∧ SE G n I0 M w0 (s.after tr o z) (a.put o.dst u) w' := by
  unfold vconv at h
  split at h
  · rename_i i k _ _ _ _ _ _ k' m hi hi'
    obtain ⟨j, d, _, h2, _⟩ := ti_spec hi
    obtain ⟨j', d', _, h2', h3', _⟩ := ti_spec hi'
    have hd' := kdOf_int h3'
    subst hd'
    obtain ⟨ox, hx⟩ : ∃ ox, LR (Wr M w0) I β w ox vx _ := by
      rcases hx with hx | ⟨es, e, _⟩
      · exact hx
      · cases e
    rw [hx.lit]
    refine ⟨_, _, w, h, ?_, .fin0 hst hd (.ofLit rfl)⟩
    simp [convert, run_underlying h2, run_underlying h2', Conv.intToInt]
  · rename_i i _ _ _ _ _ _ st hi hi'
    obtain ⟨j, d, _, h2, _⟩ := ti_spec hi
    obtain ⟨j', d', _, h2', h3', _⟩ := ti_spec hi'
    have hd' := kdOf_str h3'
    subst hd'
    obtain ⟨ox, hx⟩ : ∃ ox, LR (Wr M w0) I β w ox vx _ := by
      rcases hx with hx | ⟨es, e, _⟩
      · exact hx
      · cases e
    rw [hx.lit]
    refine ⟨_, _, w, h, ?_, .fin0 hst hd (.ofLit rfl)⟩
    simp [convert, run_underlying h2, run_underlying h2']
  · rename_i _ _ _ _ _ _ e _ _ _ _ _ _ st hi hi'
    obtain ⟨j, d, _, h2, h3, _⟩ := ti_spec hi
    obtain ⟨j', d', _, h2', h3', _⟩ := ti_spec hi'
    have hd' := kdOf_slice h3'
    subst hd'
    have hds := kdOf_str h3
    subst hds
    split at h
    · rename_i _ _ _ _ _ _ hie
      obtain ⟨je, de, _, h2e, h3e, _⟩ := ti_spec hie
      have hde := kdOf_int h3e
      subst hde
      obtain ⟨ox, hx⟩ : ∃ ox, LR (Wr M w0) I β w ox vx _ := by
        rcases hx with hx | ⟨es, e, _⟩
        · exact hx
        · cases e
      rw [hx.lit]
      have hst1 := (hst.drew).alloc (.cells (bytesRow st (grownCap w st.size 0 e)) e ((bytesRow st (grownCap w st.size 0 e)).size, (bytesRow st (grownCap w st.size 0 e)).size + 1))
      have hrun := run_bytes_of_string (P := P) w src dst e st h2 h2' h2e
      refine ⟨_, _, _, h, hrun, .fin0 hst1 hd (.ofC ?_)⟩
      have hlen : (strC st).length = st.size := by simp [strC]
      rw [show Value.slice (some ⟨w.heap.size, 0, none⟩) st.size (grownCap w st.size 0 e) = .slice (some ⟨w.heap.size, 0, none⟩) (strC st).length (grownCap w st.size 0 e) by rw [hlen]]
      refine CR.row (sz := 1) (heap_alloc_new w.drew _) (by rw [hlen]; exact grownCap_ge w _ _ _) (by simp [strC]) (fun q c hq => ?_) (fun q _ => .inr rfl)
      have hq' : q < st.size ∧ c = .lit (.int .u8 (st.data.toList.getD q 0).toNat) := by
        have := flatten_get (sz := 1) (strC st) (by simp [strC]) q 0 (by omega)
        rw [Nat.mul_one, Nat.add_zero] at this
        rw [this] at hq
        simp only [strC, List.getElem?_map] at hq
        cases hb : st.data.toList[q]? with
        | none => simp [hb] at hq
        | some b =>
          simp only [hb, Option.map_some, Option.bind_some, List.getElem?_cons_zero, Option.some.injEq] at hq
          have hlt := (List.getElem?_eq_some_iff.1 hb).1
          exact ⟨by simpa using hlt, by rw [← hq]; simp [List.getD, hb]⟩
      obtain ⟨hql, rfl⟩ := hq'
      have hql' : q < st.data.size := hql
      have hsz : q < (bytesRow st (grownCap w st.size 0 e)).size := by simp [bytesRow]; omega
      refine ⟨hsz, ?_⟩
      have : (bytesRow st (grownCap w st.size 0 e)).getD q undef = .int .u8 (st.data.toList.getD q 0).toNat := by
        unfold bytesRow
        rw [Array.getD_eq_getD_getElem?, Array.getElem?_append_left (by simpa using hql'), Array.getElem?_map, Array.getElem?_eq_getElem hql']
        have : st.data.toList.getD q 0 = st.data[q] := by
          rw [List.getD_eq_getElem?_getD, Array.getElem?_toList, Array.getElem?_eq_getElem hql']; rfl
        rw [this]; rfl
      rw [this]
      exact .lit _ rfl
    · exact h.elim
  · rename_i e _ _ _ _ _ _ _ _ _ _ _ _ es hi hi'
    obtain ⟨j, d, _, h2, h3, _⟩ := ti_spec hi
    obtain ⟨j', d', _, h2', h3', _⟩ := ti_spec hi'
    have hd' := kdOf_str h3'
    subst hd'
    have hds := kdOf_slice h3
    subst hds
    split at h
    · rename_i _ _ _ _ _ _ hie
      obtain ⟨je, de, _, h2e, h3e, _⟩ := ti_spec hie
      have hde := kdOf_int h3e
      subst hde
      split at h
      · rename_i l hl
        obtain ⟨hlen, ns, hnl, rfl, hns⟩ := bytesOf_spec _ _ hl
        have hcr : RD I w vx es := by
          rcases hx with ⟨ox, hx⟩ | ⟨es', e, hrd⟩
          · exact .ofCR hx.toC
          · cases e; exact hrd
        refine ⟨_, _, w, h, ?_, .fin0 hst hd (.ofLit rfl)⟩
        rcases hcr with ⟨⟨xa, xc, hv, hxc⟩, rfl⟩ | ⟨b, off, cap, sz, f, hv, hcap, hs, hcell, hrel⟩
        · subst hv
          have : ns = [] := List.eq_nil_of_length_eq_zero (by simp at hlen; omega)
          subst this
          rw [run_convert_bytes_string w src dst e xa 0 xc h2 h2e h2']
          cases xa <;> rfl
        · subst hv
          rw [run_convert_bytes_string w src dst e _ _ _ h2 h2e h2', run_bytesToString w ⟨b, off, none⟩ es.length cap ns ?_, foldl_push_ints]
          · simp
          · have hall : ∀ e ∈ es, e.length = 1 := by
              intro e he
              obtain ⟨i, hi⟩ := List.mem_iff_getElem?.1 he
              have hlt := (List.getElem?_eq_some_iff.1 hi).1
              have : ns[i]? = some ns[i] := List.getElem?_eq_getElem (by simp at hlen; omega)
              rw [hns i _ this] at hi
              cases hi; rfl
            have hfv : ∀ i, i < es.length → w.cell? ⟨b, off + i, none⟩ = some (.int .u8 (ns.getD i 0)) := by
              intro i hi
              have hn : ns[i]? = some ns[i] := List.getElem?_eq_getElem (by simp at hlen; omega)
              have he := hns i _ hn
              have hsz : sz = 1 := by rw [← hs _ (List.mem_of_getElem? he)]; rfl
              subst hsz
              have h1 := hcell i 0 hi (by omega)
              have h2 := hrel i 0 _ _ he rfl
              have h3 : f i 0 = .int .u8 ns[i] := h2.lit_eq
              rw [Nat.mul_one, Nat.add_zero, h3] at h1
              rw [h1]
              simp [List.getD, hn]
            rw [run_loadCells w ⟨b, off, none⟩ es.length (fun i => .int .u8 (ns.getD i 0)) (fun i hi => by rw [Addr.add_lit]; exact hfv i hi)]
            congr 2
            apply List.ext_getElem?
            intro i
            by_cases hi : i < ns.length
            · have : i < es.length := by simp at hlen; omega
              simp [hi, this]
            · have : ¬ i < es.length := by simp at hlen; omega
              simp [hi, this]
      · exact h.elim
    · exact h.elim
  · exact h.elim

end
end Go.Vl

/- Values without memory: the operations keep the relation: calls; all operations that only read; boxes. -/
namespace Go.Vl
open Go Go.RowKit

section
variable {P : Program} {G : Gl} {tr : List Nat} {n : Nat} {I0 : Ft} {M : Mx} {w0 : World} {I : Ft} {β : Nat → Option Nat} {ob : Loc → Option Nat} {s : S} {a : Act} {w : World} {o : Oper}
  {next : Act → World → Prop} {Q : Exit → Act → World → Prop} {base : Nat → Prop} {v : Value} {x y : V} {K : V → Prop}

/-- Arguments and what they are. -/
def ArgsR (I : Ft) (w : World) (vs : List Value) (xs : List V) : Prop := vs.length = xs.length ∧ ∀ (j : Nat) (x : V), xs[j]? = some x → DR I w (vs.getD j undef) x

theorem ArgsR.nil : ArgsR I w [] [] := ⟨rfl, by simp⟩
theorem ArgsR.append {vs us : List Value} {xs ys : List V} (h : ArgsR I w vs xs) (h' : ArgsR I w us ys) : ArgsR I w (vs ++ us) (xs ++ ys) := by
  refine ⟨by simp [h.1, h'.1], fun j x hx => ?_⟩
  have hl := h.1
  by_cases hj : j < xs.length
  · rw [List.getElem?_append_left hj] at hx
    have := h.2 j x hx
    rw [List.getD_eq_getElem?_getD, List.getElem?_append_left (by omega)]
    rw [List.getD_eq_getElem?_getD] at this
    exact this
  · rw [List.getElem?_append_right (by omega)] at hx
    have := h'.2 _ x hx
    rw [List.getD_eq_getElem?_getD, List.getElem?_append_right (by omega), hl]
    rw [List.getD_eq_getElem?_getD] at this
    exact this

theorem boxC_ok (hst : St G n I0 M w0 I β ob s a w) {i off blk : Nat} {cs : List C} (h : boxC s i = some cs) (hβ : β i = some blk) {Ic : Ft} (hIc : ∀ b o, I b o → Ic b o) (hb : ∀ o, Ic blk o) :
    CR Ic w (.pointer (some ⟨blk, off, none⟩)) (.rp cs off) := by
  unfold boxC at h
  split at h
  · rename_i hi
    obtain ⟨blk', cur, e1, e2, e3, e4, e5, e7⟩ := hst.bx i hi
    obtain ⟨T, e3, e6⟩ := e3.cells (isMb_of_asC h)
    rw [hβ] at e1
    cases e1
    have hlen : cs.length = (s.bx i).length := List.mapM_eq_some_length h
    have := CR.rp (I := Ic) (w := w) blk 0 off cs (fun j => cur.getD j undef) (fun j hj => by
      have hjc : j < cur.size := by omega
      rw [Nat.zero_add]
      refine ⟨?_, hb j⟩
      rw [cell_of_row w blk j cur T (0, 0) e3]
      simp [Array.getElem?_eq_getElem hjc]) (fun j c hc => by
      obtain ⟨vv, hvv, hvc⟩ := List.mapM_eq_some_get h j c hc
      have hlr := e5 j
      have : (s.bx i).getD j .un = vv := by simp [List.getD, hvv]
      rw [this] at hlr
      cases vv <;> simp only [V.asC] at hvc <;> try cases hvc
      · exact hlr.toC.mono fun b o h => ⟨hIc b o h, rfl⟩
      · exact hlr.1.mono fun b o h => ⟨hIc b o h, rfl⟩)
    rw [Nat.zero_add] at this
    exact this
  · cases h

theorem immC_ok (hst : St G n I0 M w0 I β ob s a w) {c : C} (hx : PR I β w v x) (h : immC s x = some c) {Ic : Ft} (hIc : ∀ b o, I b o → Ic b o)
    (hb : x.isBp = true → ∀ i b o, β i = some b → Ic b o) : CR Ic w v c := by
  cases x <;> simp only [PR] at hx <;> simp only [immC] at h
  · cases h; exact hx.mono fun b o h => ⟨hIc b o h, rfl⟩
  · cases h; exact hx.2.1.mono fun b o h => ⟨hIc b o h, rfl⟩
  · obtain ⟨blk, e1, rfl⟩ := hx
    simp only [Option.map_eq_some_iff] at h
    obtain ⟨cs, h1, rfl⟩ := h
    exact boxC_ok hst h1 e1 hIc (fun o => hb rfl _ _ o e1)
  · exact view_cr hst h hx hIc (fun b o e => hb rfl _ b o e)
  · cases h

theorem imm_ok (hst : St G n I0 M w0 I β ob s a w) {ox : Option Nat} (hx : LR base I β w ox v x) (h : imm s x = some y) {Ic : Ft} (hIc : ∀ b o, I b o → Ic b o)
    (hb : x.boxy = true → ∀ i b o, β i = some b → Ic b o) : DR Ic w v y := by
  cases x <;> simp only [imm] at h <;> try cases h
  · exact .c _ _ (hx.toC.mono fun b o h => ⟨hIc b o h, rfl⟩)
  · obtain ⟨vs, rfl, h1, h2⟩ := hx.agg
    exact .agg vs _ h1 fun j c hc => (h2 j c hc).mono fun b o h => ⟨hIc b o h, rfl⟩
  · exact .c _ _ (hx.1.mono fun b o h => ⟨hIc b o h, rfl⟩)
  · simp only [LR] at hx
    obtain ⟨blk, e1, rfl⟩ := hx
    simp only [Option.map_eq_some_iff] at h
    obtain ⟨cs, h1, rfl⟩ := h
    exact .c _ _ (boxC_ok hst h1 e1 hIc (fun o => hb rfl _ _ o e1))
  · rename_i f fs cs
    simp only [LR] at hx
    obtain ⟨vf, vc, rfl, h1, h2, h3, h4⟩ := hx
    split at h
    · rename_i fs' cs' e1 e2
      cases h
      have l1 := List.mapM_eq_some_length e1
      have l2 := List.mapM_eq_some_length e2
      have hbf : ∀ z ∈ fs, z.isBp = true → ∀ i b o, β i = some b → Ic b o := fun z hz hzb =>
        hb (by simp only [V.boxy, Bool.or_eq_true, List.any_eq_true]; exact .inl ⟨z, hz, hzb⟩)
      have hbc : ∀ z ∈ cs, z.isBp = true → ∀ i b o, β i = some b → Ic b o := fun z hz hzb =>
        hb (by simp only [V.boxy, Bool.or_eq_true, List.any_eq_true]; exact .inr ⟨z, hz, hzb⟩)
      refine .c _ _ (.fn f vf vc fs' cs' (by omega) (by omega) (fun j c hc => ?_) (fun j c hc => ?_))
      · obtain ⟨z, hz, hzc⟩ := List.mapM_eq_some_get e1 j c hc
        exact immC_ok hst (h3 j z hz) hzc hIc (hbf z (List.mem_of_getElem? hz))
      · obtain ⟨z, hz, hzc⟩ := List.mapM_eq_some_get e2 j c hc
        exact immC_ok hst (h4 j z hz) hzc hIc (hbc z (List.mem_of_getElem? hz))
    · cases h
  · simp only [LR] at hx
    simp only [Option.map_eq_some_iff] at h
    obtain ⟨c, h1, rfl⟩ := h
    exact .c _ _ (view_cr hst h1 hx hIc (fun b o e => hb rfl _ b o e))
  · rename_i vs
    simp only [LR] at hx
    obtain ⟨cells, rfl, h2, h3⟩ := hx
    simp only [Option.map_eq_some_iff] at h
    obtain ⟨cs, h1, rfl⟩ := h
    refine .agg _ _ (by rw [h2]; exact (List.mapM_eq_some_length h1).symm) fun j c hc => ?_
    obtain ⟨z, hz, hzc⟩ := List.mapM_eq_some_get h1 j c hc
    exact immC_ok hst (h3 j z hz) hzc hIc (fun hzb => hb (by simp only [V.boxy, List.any_eq_true]; exact ⟨z, List.mem_of_getElem? hz, hzb⟩))

theorem args_ok (hst : St G n I0 M w0 I β ob s a w) {Ic : Ft} (hIc : ∀ b o, I b o → Ic b o) : ∀ (l : List Operand) (ys : List V), (l.map (ev G s)).mapM (imm s) = some ys →
    ((l.map (ev G s)).any V.boxy = true → ∀ i b o, β i = some b → Ic b o) → ArgsR Ic w (l.map a.eval) ys
  | [], ys, h, _ => by simp at h; subst h; exact .nil
  | x :: l, ys, h, hb => by
    simp only [List.map_cons, List.mapM_cons, bind, Option.bind_eq_some_iff, pure, Option.some.injEq] at h
    obtain ⟨y, h1, ys', h2, rfl⟩ := h
    have hd := imm_ok hst (ev_sound hst x) h1 hIc (fun hx => hb (by simp [hx]))
    have ih := args_ok hst hIc l ys' h2 (fun hx => hb (by simp only [List.map_cons, List.any_cons, hx, Bool.or_true]))
    refine ⟨by simp [ih.1], fun j z hz => ?_⟩
    cases j with
    | zero => simp at hz; subst hz; exact hd
    | succ j => simpa using ih.2 j z (by simpa using hz)

theorem ArgsR.ofC {I' : Ft} (vs : Array Value) (cs : List C) (h : vs.size = cs.length) (hc : ∀ j c, cs[j]? = some c → CR I' w (vs.getD j undef) c) : ArgsR I' w vs.toList (cs.map .c) := by
  refine ⟨by simp [h], fun j x hx => ?_⟩
  simp only [List.getElem?_map, Option.map_eq_some_iff] at hx
  obtain ⟨c, h1, rfl⟩ := hx
  have := hc j c h1
  rw [List.getD_eq_getElem?_getD, Array.getElem?_toList]
  rw [Array.getD_eq_getD_getElem?] at this
  exact .c _ _ this

theorem caps_ok (hst : St G n I0 M w0 I β ob s a w) {Ic : Ft} (hIc : ∀ b o, I b o → Ic b o) (vs : Array Value) (xs ys : List V) (hl : vs.size = xs.length) (h : xs.mapM (imm s) = some ys)
    (hr : ∀ j x, xs[j]? = some x → PR I β w (vs.getD j undef) x) (hb : xs.any V.boxy = true → ∀ i b o, β i = some b → Ic b o) : ArgsR Ic w vs.toList ys := by
  refine ⟨by have := List.mapM_eq_some_length h; simp; omega, fun j y hy => ?_⟩
  obtain ⟨x, hx, hxy⟩ := List.mapM_eq_some_get h j y hy
  have hp := hr j x hx
  rw [List.getD_eq_getElem?_getD, Array.getElem?_toList, ← Array.getD_eq_getD_getElem?]
  have hlr : LR (Wr M w0) I β w none (vs.getD j undef) x := by
    cases x <;> simp only [PR] at hp <;> simp only [LR]
    · exact .c _ _ hp
    · exact ⟨hp.2.1, .inl ⟨rfl, hp.1, hp.2.2⟩⟩
    · exact hp
    · exact hp
    · exact hp
  exact imm_ok hst hlr hxy hIc (fun hb' => hb (by simp only [List.any_eq_true]; exact ⟨x, List.mem_of_getElem? hx, hb'⟩))

theorem LR.flat {r : V} {ob' : Option Nat} (hf : r.isFlat = true) (h : LR base I β w ob' v r) {I' : Ft} {w' : World} {base' : Nat → Prop} {β' : Nat → Option Nat} : LR base' I' β' w' none v r := by
  have lits : ∀ (cs : List C) (vs : Array Value), cs.all C.isLit = true → (∀ j c, cs[j]? = some c → CR I w (vs.getD j undef) c) → ∀ j c, cs[j]? = some c → CR I' w' (vs.getD j undef) c := by
    intro cs vs hc h j c hj
    have h1 := h j c hj
    have h2 := List.all_eq_true.1 hc c (List.mem_of_getElem? hj)
    cases c <;> simp [C.isLit] at h2
    obtain ⟨h3, h4⟩ := h1.lit_inv
    rw [h3]; exact .lit _ h4
  cases r with
  | un => simp only [LR]; exact .un _
  | sk => simp only [LR] at h ⊢; cases h; exact .sk
  | c c =>
    cases c <;> simp only [V.isFlat] at hf <;> try cases hf
    obtain ⟨h3, h4⟩ := h.toC.lit_inv
    rw [h3]; exact .ofLit h4
  | agg cs =>
    obtain ⟨vs, rfl, h1, h2⟩ := h.agg
    simp only [LR]; exact .agg vs _ h1 (lits _ vs hf h2)
  | tup ds =>
    simp only [LR] at h ⊢
    cases h with
    | tup vs _ h1 h2 =>
      refine .tup vs ds h1 fun j d hj => ?_
      have h3 := h2 j d hj
      have h4 := List.all_eq_true.1 hf d (List.mem_of_getElem? hj)
      cases d with
      | c c =>
        cases c <;> simp only at h4 <;> try cases h4
        generalize vs.getD j undef = vv at h3
        cases h3 with
        | c _ _ h5 =>
          obtain ⟨h6, h7⟩ := h5.lit_inv
          rw [h6]; exact .c _ _ (.lit _ h7)
      | agg cs =>
        generalize vs.getD j undef = vv at h3
        cases h3 with
        | agg us _ h5 h6 => exact .agg us _ h5 (lits _ us h4 h6)
      | _ => cases h4
  | ow => cases hf
  | bp => cases hf
  | clo => cases hf
  | ms => cases hf
  | mag => cases hf
  | mr => cases hf
  | mk => cases hf
  | it => cases hf

/-- A call of a function under a contract. -/
theorem call_ok (hst : St G n I0 M w0 I β ob s a w) (hd : ∀ d, o.dst = some d → d < n) {f : FuncId} {vs : List Value} {xs : List V} {r : V} (hok : FnOK P G f xs r) (hr : K r)
    (boxy : Bool) (hargs : ∀ Ic : Ft, (∀ b o, I b o → Ic b o) → (boxy = true → ∀ i b o, β i = some b → Ic b o) → ArgsR Ic w vs xs) (hflat : boxy = true → r.isFlat = true)
    (hrun : (execOp a.eval o).run P w = .ok (.enter f vs.toArray) w)
    (hk : ∀ a' w' x, K x → SE G n I0 M w0 (s.after tr o x) a' w' → next a' w') : o.wp P a w next Q := by
  unfold Oper.wp
  rw [hrun]
  simp only [Oper.upon]
  cases boxy with
  | false =>
    obtain ⟨h1, h2⟩ := hargs I (fun _ _ h => h) (by simp)
    refine (hok.2 I w vs.toArray hst.ibnd hst.glob (by simpa using h1) (fun j x hx => by simpa using h2 j x hx)).mono ?_
    rintro e w' ⟨v, I', rfl, hg, hI1, hI2, ob', hlr, hfr⟩
    simp only
    refine hk _ _ r hr ?_
    have hst' := hst.grow hg hI1 hI2
    refine .fin hst' hd (o' := ob') ?_ fun b hb => ?_
    · cases r <;> simp only [LR] at hlr ⊢ <;> try exact hlr
      · obtain ⟨h3, h4⟩ := hlr
        refine ⟨h3, ?_⟩
        rcases h4 with h4 | ⟨e, blk, cap, cur, sz, q1, q2, q3, q4, q5⟩
        · exact .inl h4
        · exact .inr ⟨e, blk, cap, cur, sz, q1, q2, q3, .inl (Nat.le_trans hst.below.size q4), q5⟩
      · obtain ⟨_, h3, _⟩ := hlr; cases h3
      rotate_left
      · obtain ⟨_, _, _, _, _, h3, _⟩ := hlr; cases h3
      · obtain ⟨cs, q1, q2, q3⟩ := hlr
        exact ⟨cs, q1, q2, fun j x hx => (q3 j x hx).mono (fun b o h => ⟨h, rfl⟩) (by simp)⟩
      · obtain ⟨_, h3, _⟩ := hlr; cases h3
      · obtain ⟨_, _, _, _, h3, _⟩ := hlr; cases h3
      · obtain ⟨vf, vc, q1, q2, q3, q4, q5⟩ := hlr
        exact ⟨vf, vc, q1, q2, q3, fun j x hx => (q4 j x hx).mono (fun b o h => ⟨h, rfl⟩) (by simp), fun j x hx => (q5 j x hx).mono (fun b o h => ⟨h, rfl⟩) (by simp)⟩
    · obtain ⟨h3, h4⟩ := hfr b hb
      obtain ⟨f1, f2⟩ := hst.fresh h3
      exact ⟨⟨h4, .inl (Nat.le_trans hst.below.size h3)⟩, f2, fun L hL => absurd hL (f1 L)⟩
  | true =>
    have hbx : ∀ i b, β i = some b → b < w.heap.size := fun i b hi => by
      by_cases h : i < s.nb
      · obtain ⟨blk, cur, e1, _, e3, _⟩ := hst.bx i h
        rw [hi] at e1; cases e1
        exact e3.lt
      · rw [hst.bnone i (by omega)] at hi; cases hi
    obtain ⟨h1, h2⟩ := hargs (fun b o => I b o ∨ ∃ i, β i = some b) (fun _ _ h => .inl h) (fun _ i b o hi => .inr ⟨i, hi⟩)
    refine (hok.2 (fun b o => I b o ∨ ∃ i, β i = some b) w vs.toArray (fun b o hb => by
      rcases hb with hb | ⟨i, hi⟩
      · exact hst.ibnd b o hb
      · exact hbx i b hi) (fun g cs hg => (hst.glob g cs hg).mono fun b o h => ⟨.inl h, rfl⟩) (by simpa using h1) (fun j x hx => by simpa using h2 j x hx)).mono ?_
    rintro e w' ⟨v, I', rfl, hg, hI1, hI2, ob', hlr, hfr⟩
    simp only
    refine hk _ _ r hr ?_
    have hst' := hst.grow hg (fun _ _ h => h) (fun _ _ h => .inl h)
    exact .fin0 hst' hd (hlr.flat (hflat rfl))

theorem run_call {f : Operand} {args : Array Operand} {ts : Array TypeId} (ho : o.op = .call { callee := .value f, args := args, argTypes := ts }) {g : FuncId} {vf vc : Array Value} (hf : a.eval f = .func (.func g) vf vc)
    {fn : Func} {c : Code} (h1 : P.funcs[g]? = some fn) (h2 : (fn.name == "runtime.NumGoroutine") = false) (h3 : fn.body = some c) :
    (execOp a.eval o).run P w = .ok (.enter g (vf ++ args.map a.eval ++ vc)) w := by
  unfold execOp
  simp only [ho, resolve, Deferred.ofValue, hf, Sem.run_bind, Sem.run_pure, Result.andThen_ok, invoke]
  have h2' : fn.name ≠ "runtime.NumGoroutine" := by simpa using h2
  simp [callFunc, h1, h2', h3]

theorem vcall_sound {f : Operand} {args : Array Operand} {ts : Array TypeId} (ho : o.op = .call { callee := .value f, args := args, argTypes := ts }) (hst : St G n I0 M w0 I β ob s a w) (hd : ∀ d, o.dst = some d → d < n)
    (h : vcall P G s (ev G s f) (args.toList.map (ev G s)) K) (hk : ∀ a' w' x, K x → SE G n I0 M w0 (s.after tr o x) a' w' → next a' w') : o.wp P a w next Q := by
  have hf := ev_sound hst f
  unfold vcall at h
  split at h
  · rename_i g fs cs he
    rw [he] at hf
    split at h
    · rename_i as has
      obtain ⟨r, hok, hflat, hr⟩ := h
      obtain ⟨vf, vc, hv, q1, q2, q3, q4⟩ := hf.toC.fn_inv
      obtain ⟨fn, h1, h2, c, h3⟩ := hok.1
      have hrun := run_call (P := P) (w := w) ho hv h1 h2 h3
      refine call_ok hst hd hok hr ((args.toList.map (ev G s)).any V.boxy) (vs := vf.toList ++ args.toList.map a.eval ++ vc.toList) (fun Ic hIc hb => ?_) hflat ?_ hk
      · exact ((ArgsR.ofC vf fs q1 fun j c hc => (q3 j c hc).mono fun b o h => ⟨hIc b o h, rfl⟩).append (args_ok hst hIc _ as has hb)).append
          (ArgsR.ofC vc cs q2 fun j c hc => (q4 j c hc).mono fun b o h => ⟨hIc b o h, rfl⟩)
      · rw [hrun]; congr 2; apply Array.ext'; simp
    · exact h.elim
  · rename_i g fs cs he
    rw [he] at hf
    simp only [LR] at hf
    obtain ⟨vf, vc, hv, q1, q2, q3, q4⟩ := hf
    split at h
    · rename_i fs' as cs' e1 e2 e3
      obtain ⟨r, hok, hflat, hr⟩ := h
      obtain ⟨fn, h1, h2, c, h3⟩ := hok.1
      have hrun := run_call (P := P) (w := w) ho hv h1 h2 h3
      refine call_ok hst hd hok hr ((fs ++ args.toList.map (ev G s) ++ cs).any V.boxy) (vs := vf.toList ++ args.toList.map a.eval ++ vc.toList) (fun Ic hIc hb => ?_) hflat ?_ hk
      · exact ((caps_ok hst hIc vf fs fs' q1 e1 q3 fun hx => hb (by simp only [List.any_append, hx, Bool.true_or])).append
          (args_ok hst hIc _ as e2 fun hx => hb (by simp only [List.any_append, hx, Bool.true_or, Bool.or_true]))).append
          (caps_ok hst hIc vc cs cs' q2 e3 q4 fun hx => hb (by simp only [List.any_append, hx, Bool.or_true]))
      · rw [hrun]; congr 2; apply Array.ext'; simp
    · exact h.elim
  · exact h.elim

theorem vmin_sound {mx : Bool} {args : Array Operand} (hst : St G n I0 M w0 I β ob s a w) (h : vmin mx (args.toList.map (ev G s)) K) :
    ∃ u, flat u = true ∧ K (.c (.lit u)) ∧ (if mx then Builtin.max_ #[] 0 (args.map a.eval) else Builtin.min_ #[] 0 (args.map a.eval)).run P w = .ok u w := by
  unfold vmin at h
  split at h
  · rename_i k p k' q hargs
    obtain ⟨X, l, hX, hXv, hl⟩ : ∃ X l, args.toList = X :: l ∧ ev G s X = .c (.lit (.int k p)) ∧ l.map (ev G s) = [.c (.lit (.int k' q))] := by
      cases ha : args.toList with
      | nil => simp [ha] at hargs
      | cons X l => simp only [ha, List.map_cons, List.cons.injEq] at hargs; exact ⟨X, l, rfl, hargs.1, hargs.2⟩
    obtain ⟨Y, rfl, hYv⟩ : ∃ Y, l = [Y] ∧ ev G s Y = .c (.lit (.int k' q)) := by
      cases l with
      | nil => simp at hl
      | cons Y l' => simp only [List.map_cons, List.cons.injEq, List.map_eq_nil_iff] at hl; exact ⟨Y, by rw [hl.2], hl.1⟩
    have e1 : a.eval X = .int k p := by have := ev_sound hst X; rw [hXv] at this; exact this.lit
    have e2 : a.eval Y = .int k' q := by have := ev_sound hst Y; rw [hYv] at this; exact this.lit
    refine ⟨_, rfl, h, ?_⟩
    cases mx
    · simp [Builtin.min_, hX, e1, e2, Builtin.min2]
    · simp [Builtin.max_, hX, e1, e2, Builtin.max2]
  · exact h.elim

end
end Go.Vl

/- Maps, first part: what the program's own map operations do with keys that are compared cell by cell. -/
namespace Go.Vl
open Go Go.RowKit

section
variable {P : Program} {I : Ft} {w : World}

theorem eqC_true {k : EK} {c d : C} (h : eqC k c d = some true) : ∃ v, c = .lit v ∧ d = .lit v ∧ (∀ m, Instr.sameBits m v v = true) := by
  cases k with
  | int => obtain ⟨k, a, b, rfl, rfl, hr⟩ := eqC_int h; have : a = b := by simpa using hr.symm
           subst this; exact ⟨_, rfl, rfl, fun m => by cases m <;> simp [Instr.sameBits]⟩
  | bool => obtain ⟨a, b, rfl, rfl, hr⟩ := eqC_bool h; have : a = b := by simpa using hr.symm
            subst this; exact ⟨_, rfl, rfl, fun m => by cases m <;> simp [Instr.sameBits]⟩
  | str => obtain ⟨a, b, rfl, rfl, hr⟩ := eqC_str h; have : a = b := by simpa using hr.symm
           subst this; exact ⟨_, rfl, rfl, fun m => by cases m <;> simp [Instr.sameBits, beq_bytes]⟩

theorem eqCs_true : ∀ {ks : List EK} {cs ds : List C}, eqCs ks cs ds = some true → cs.length = ks.length → ds.length = ks.length →
    cs = ds ∧ ∀ c ∈ cs, ∃ v, c = .lit v ∧ ∀ m, Instr.sameBits m v v = true
  | [], cs, ds, _, h1, h2 => by simp at h1 h2; subst h1; subst h2; simp
  | k :: ks, [], ds, h, h1, h2 => by simp at h1
  | k :: ks, c :: cs, [], h, h1, h2 => by simp at h2
  | k :: ks, c :: cs, d :: ds, h, h1, h2 => by
    simp only [eqCs] at h
    split at h
    · rename_i p q e1 e2
      simp only [Option.some.injEq, Bool.and_eq_true] at h
      obtain ⟨rfl, rfl⟩ := h
      obtain ⟨v, rfl, rfl, hv⟩ := eqC_true e1
      obtain ⟨rfl, h4⟩ := eqCs_true e2 (by simpa using h1) (by simpa using h2)
      exact ⟨rfl, fun c hc => by
        rcases List.mem_cons.1 hc with rfl | hc
        · exact ⟨v, rfl, hv⟩
        · exact h4 c hc⟩
    · cases h

theorem cells_same {xs ys : Array Value} {cs : List C} (hx : Cells I w xs cs) (hy : Cells I w ys cs) (hl : ∀ c ∈ cs, ∃ v, c = .lit v ∧ ∀ m, Instr.sameBits m v v = true) :
    xs = ys ∧ ∀ v ∈ xs.toList, ∀ m, Instr.sameBits m v v = true := by
  have each : ∀ j, j < cs.length → ∃ v, xs[j]? = some v ∧ ys[j]? = some v ∧ ∀ m, Instr.sameBits m v v = true := fun j hj => by
    obtain ⟨v, hv, hs⟩ := hl cs[j] (List.getElem_mem hj)
    have h1 := hx.2 j _ (List.getElem?_eq_getElem hj)
    have h2 := hy.2 j _ (List.getElem?_eq_getElem hj)
    rw [hv] at h1 h2
    exact ⟨v, getD_of h1.lit_eq (by rw [hx.1]; exact hj), getD_of h2.lit_eq (by rw [hy.1]; exact hj), hs⟩
  refine ⟨?_, fun v hv m => ?_⟩
  · apply Array.ext (by rw [hx.1, hy.1])
    intro j h1 h2
    obtain ⟨v, e1, e2, _⟩ := each j (by rw [← hx.1]; exact h1)
    rw [Array.getElem?_eq_getElem h1] at e1; rw [Array.getElem?_eq_getElem h2] at e2
    rw [Option.some.inj e1, Option.some.inj e2]
  · obtain ⟨j, hj, rfl⟩ := List.getElem_of_mem hv
    obtain ⟨v, e1, _, hs⟩ := each j (by rw [← hx.1]; simpa using hj)
    simp only [Array.length_toList] at hj
    rw [Array.getElem?_eq_getElem hj] at e1
    simp only [Array.getElem_toList]
    rw [Option.some.inj e1]; exact hs m

theorem sameBits_mkv {t : TypeId} {xs : Array Value} (h : ∀ v ∈ xs.toList, ∀ m, Instr.sameBits m v v = true) (h1 : isAggB P t = false → 0 < xs.size) (m : Nat) :
    Instr.sameBits (m + 1) (mkv P t xs) (mkv P t xs) = true := by
  unfold mkv
  cases hz : isAggB P t with
  | false =>
    simp only [Bool.false_eq_true, if_false]
    have := h1 hz
    simp only [Array.getD, this, dif_pos]
    exact h _ (by simp) _
  | true =>
    simp only [if_true]
    have : ∀ l : List Value, (∀ v ∈ l, ∀ m, Instr.sameBits m v v = true) → (l.zip l).all (fun (x : Value × Value) => Instr.sameBits m x.1 x.2) = true := by
      intro l hl
      rw [List.all_eq_true]
      intro x hx
      have : x.1 = x.2 ∧ x.1 ∈ l := by
        have h2 : l.zip l = l.map fun a => (a, a) := by
          clear hx hl
          induction l with
          | nil => rfl
          | cons a l ih => simp [ih]
        rw [h2] at hx
        obtain ⟨a, ha, rfl⟩ := List.mem_map.1 hx
        exact ⟨rfl, ha⟩
      rw [← this.1]; exact hl _ this.2 m
    simp only [Instr.sameBits, BEq.rfl, Bool.true_and]
    exact this _ h

theorem run_keyStays {t : TypeId} {xs ys : Array Value} {ks : List EK} {cs ds : List C} (hx : Cells I w xs cs) (hy : Cells I w ys ds) (he : eqCs ks cs ds = some true) (h1 : cs.length = ks.length) (h2 : ds.length = ks.length) (hz : isAggB P t = false → 0 < ks.length) :
    mkv P t xs = mkv P t ys ∧ (Instr.keyThatStays (mkv P t ys) (mkv P t xs)).run P w = .ok (mkv P t xs) w := by
  obtain ⟨rfl, hl⟩ := eqCs_true he h1 h2
  obtain ⟨rfl, hs⟩ := cells_same hx hy hl
  refine ⟨rfl, ?_⟩
  unfold Instr.keyThatStays
  rw [sameBits_mkv hs (fun h => by rw [hx.1, h1]; exact hz h) 9999]
  simp

theorem checkKey_eqk (em : Bool) : ∀ (d : Nat) (t : TypeId) (ks : List EK), eqk P d t = some ks → ∀ (n : Nat) (xs : Array Value), xs.size = ks.length →
    (Instr.checkKey em (d + n) t (mkv P t xs)).run P w = .ok () w := by
  intro d
  induction d with
  | zero => intro t ks h; simp [eqk] at h
  | succ d ih =>
    intro t ks h n xs hxs
    rw [show d + 1 + n = (d + n) + 1 by omega]
    unfold eqk at h
    split at h
    · rename_i k hu
      rw [Instr.checkKey]; simp [run_underlying hu, Result.andThen]
    · rename_i hu
      rw [Instr.checkKey]; simp [run_underlying hu, Result.andThen]
    · rename_i hu
      rw [Instr.checkKey]; simp [run_underlying hu, Result.andThen]
    · rename_i fs hu
      split at h
      · cases h
      · have hag : isAggB P t = true := by simp [isAggB, hu]
        simp only [mkv, hag, if_true]
        rw [Instr.checkKey]
        simp only [Sem.run_bind, run_underlying hu, Result.andThen_ok]
        rw [← Array.forIn_toList]
        have hh : ∃ acc, eqFs P (eqk P d) fs.toList acc = some ks := ⟨[], h⟩
        clear h
        generalize fs.toList = l at hh
        induction l with
        | nil => simp
        | cons f l ihl =>
          obtain ⟨acc, h⟩ := hh
          simp only [eqFs] at h
          split at h
          · rename_i k1 hk1
            split at h
            · rename_i hc
              obtain ⟨hn, hoff, hlen⟩ := hc
              obtain ⟨rest, hrest⟩ := eqFs_spec (P := P) _ _ _ _ h
              have hsz : acc.length + k1.length ≤ ks.length := by rw [hrest]; simp
              obtain ⟨u, hfu⟩ := eqk_under hk1
              have hone : isAggB P f.type = false → P.cellsOf f.type = 1 := fun hz => by rw [← hlen]; exact eqk_one hk1 hz
              have hpx := run_part (w := w) f.type u hfu xs f.offset (by rw [hoff, ← hlen, hxs]; exact hsz) hone
              have p2 := ih f.type k1 hk1 n (xs.extract f.offset (f.offset + P.cellsOf f.type)) (by simp; omega)
              simp only [List.forIn_cons, Sem.run_bind, hn, ne_eq, not_false_eq_true, if_true, hpx, Result.andThen_ok, p2, Sem.run_pure]
              exact ihl ⟨_, h⟩
            · cases h
          · cases h
    · rename_i m e hu
      split at h
      · rename_i k1 hk1
        split at h
        · rename_i hlen
          simp only [Option.some.injEq] at h
          have hag : isAggB P t = true := by simp [isAggB, hu]
          obtain ⟨u, heu⟩ := eqk_under hk1
          obtain ⟨i, hi⟩ := info_of_underlying heu
          simp only [mkv, hag, if_true]
          rw [Instr.checkKey]
          simp only [Sem.run_bind, run_underlying hu, Result.andThen_ok]
          simp only [Std.Legacy.Range.forIn_eq_forIn_range', Std.Legacy.Range.size, Nat.sub_zero, Nat.add_one_sub_one, Nat.div_one]
          have hksl : ks.length = m * k1.length := by rw [← h]; simp
          have hone : isAggB P e = false → P.cellsOf e = 1 := fun hz => by rw [← hlen]; exact eqk_one hk1 hz
          have hsub : ∀ j ∈ List.range' 0 m, j < m := fun j hj => by simp at hj; exact hj
          generalize List.range' 0 m = is at hsub
          induction is with
          | nil => simp
          | cons j is ihs =>
            have hj := hsub j (by simp)
            have hsz : j * k1.length + k1.length ≤ ks.length := by
              rw [hksl, ← Nat.succ_mul]; exact Nat.mul_le_mul_right _ (by omega)
            have hpx := run_part (w := w) e u heu xs (j * P.cellsOf e) (by rw [← hlen, hxs]; exact hsz) hone
            have p2 := ih e k1 hk1 n (xs.extract (j * P.cellsOf e) (j * P.cellsOf e + P.cellsOf e)) (by simp; rw [← hlen]; omega)
            simp only [List.forIn_cons, Sem.run_bind, run_sizeOf w hi, Result.andThen_ok, hpx, p2, Sem.run_pure]
            exact ihs (fun y hy => hsub y (by simp [hy]))
        · cases h
      · cases h
    · cases h

theorem sameNow_eqk {t : TypeId} {u : TypeDesc} {d : Nat} {ks : List EK} (hu : P.underlying t = some u) (hk : eqk P (d + 1) t = some ks) (hz : isAggB P t = false) {xs ys : Array Value} {cs ds : List C} {r : Bool} (hx : Cells I w xs cs) (hy : Cells I w ys ds)
    (h1 : cs.length = ks.length) (h2 : ds.length = ks.length) (he : eqCs ks cs ds = some r) : Instr.sameNow u (mkv P t xs) (mkv P t ys) = some r := by
  have hl := eqk_one hk hz
  obtain ⟨k, rfl⟩ := List.length_eq_one_iff.1 hl
  obtain ⟨c, rfl⟩ := List.length_eq_one_iff.1 (h1.trans hl)
  obtain ⟨e, rfl⟩ := List.length_eq_one_iff.1 (h2.trans hl)
  have hr : eqC k c e = some r := by
    simp only [eqCs] at he
    split at he
    · rename_i p q e1 e2
      simp only [Option.some.injEq] at e2 he
      subst e2; rw [e1]; simpa using he
    · cases he
  have hcx : CR I w (mkv P t xs) c := by simp only [mkv, hz]; exact hx.2 0 c rfl
  have hcy : CR I w (mkv P t ys) e := by simp only [mkv, hz]; exact hy.2 0 e rfl
  unfold eqk at hk
  split at hk
  · rename_i q hu'
    rw [hu] at hu'; cases hu'
    simp only [Option.some.injEq, List.cons.injEq, and_true] at hk
    subst hk
    obtain ⟨kk, a, b, rfl, rfl, rfl⟩ := eqC_int hr
    rw [hcx.lit_eq, hcy.lit_eq]
    simp [Instr.sameNow, Bool.beq_eq_decide_eq]
  · rename_i hu'
    rw [hu] at hu'; cases hu'
    simp only [Option.some.injEq, List.cons.injEq, and_true] at hk
    subst hk
    obtain ⟨a, b, rfl, rfl, rfl⟩ := eqC_bool hr
    rw [hcx.lit_eq, hcy.lit_eq]
    simp [Instr.sameNow]
  · rename_i hu'
    rw [hu] at hu'; cases hu'
    simp only [Option.some.injEq, List.cons.injEq, and_true] at hk
    subst hk
    obtain ⟨a, b, rfl, rfl, rfl⟩ := eqC_str hr
    rw [hcx.lit_eq, hcy.lit_eq]
    simp [Instr.sameNow, beq_bytes]
  · rename_i hu'; simp [isAggB, hu'] at hz
  · rename_i hu'; simp [isAggB, hu'] at hz
  · cases hk

theorem findK_run {t : TypeId} {ks : List EK} (hk : eqk P 8 t = some ks) {xs : Array Value} {cs : List C} (hx : Cells I w xs cs) (h1 : cs.length = ks.length) :
    ∀ (es : List MapEntry) (kc : List (List C)) (i : Nat) (r : Option Nat), es.length = kc.length → (∀ (j : Nat) (e : MapEntry) (c : List C), es[j]? = some e → kc[j]? = some c → ∃ ys, e.key = mkv P t ys ∧ Cells I w ys c) →
      findK ks cs kc i = some r → (if isAggB P t then (Instr.findAsking t (mkv P t xs) es i).run P w = .ok (r.map fun j => (j, ((es[j - i]?).map (·.val)).getD undef)) w
        else Instr.findNow ((P.underlying t).getD .bool) (mkv P t xs) es i = some (r.map fun j => (j, ((es[j - i]?).map (·.val)).getD undef))) ∧ ∀ j, r = some j → i ≤ j
  | [], [], i, r, _, _, h => by
    simp only [findK, Option.some.injEq] at h; subst h
    refine ⟨?_, by simp⟩
    split <;> simp [Instr.findAsking, Instr.findNow]
  | [], _ :: _, _, _, h, _, _ => by simp at h
  | _ :: _, [], _, _, h, _, _ => by simp at h
  | e :: es, c :: kc, i, r, hl, hes, h => by
    simp only [findK] at h
    split at h
    · rename_i h2
      obtain ⟨ys, hkey, hy⟩ := hes 0 e c rfl rfl
      obtain ⟨u, hu⟩ := eqk_under hk
      have step : ∀ b, eqCs ks cs c = some b → (isAggB P t = true → (Op.equal t (mkv P t xs) e.key).run P w = .ok b w) ∧ (isAggB P t = false → Instr.sameNow u (mkv P t xs) e.key = some b) := fun b hb => by
        rw [hkey]
        exact ⟨fun _ => eqk_sound (w := w) 8 t ks hk 10000 (by omega) xs ys cs c b hx hy (by rw [hx.1, h1]) (by rw [hy.1, h2]) hb, fun hz => sameNow_eqk hu hk hz hx hy h1 h2 hb⟩
      split at h
      · rename_i hb
        simp only [Option.some.injEq] at h; subst h
        obtain ⟨s1, s2⟩ := step _ hb
        refine ⟨?_, fun j hj => by cases hj; exact Nat.le_refl _⟩
        split
        · rename_i hz; simp [Instr.findAsking, s1 hz]
        · rename_i hz; simp [Instr.findNow, hu, s2 (by simpa using hz)]
      · rename_i hb
        obtain ⟨s1, s2⟩ := step _ hb
        obtain ⟨q1, q2⟩ := findK_run hk hx h1 es kc (i + 1) r (by simpa using hl) (fun j e c h1 h2 => hes (j + 1) e c (by simpa using h1) (by simpa using h2)) h
        have hsub : (r.map fun j => (j, (((e :: es)[j - i]?).map (·.val)).getD undef)) = r.map fun j => (j, ((es[j - (i + 1)]?).map (·.val)).getD undef) := by
          cases r with
          | none => rfl
          | some j =>
            have := q2 j rfl
            have e1 : j - i = (j - (i + 1)) + 1 := by omega
            simp [e1]
        refine ⟨?_, fun j hj => by have := q2 j hj; omega⟩
        rw [hsub]
        split
        · rename_i hz
          rw [if_pos hz] at q1
          simpa [Instr.findAsking, s1 hz] using q1
        · rename_i hz
          rw [if_neg hz] at q1
          simpa [Instr.findNow, hu, s2 (by simpa using hz)] using q1
      · cases h
    · cases h

/-- Where a key is found. -/
theorem run_findK {t : TypeId} {ks : List EK} (hk : eqk P 8 t = some ks) {xs : Array Value} {cs : List C} (hx : Cells I w xs cs) (h1 : cs.length = ks.length) {es : List MapEntry} {kc : List (List C)} {r : Option Nat} (hl : es.length = kc.length)
    (hes : ∀ (j : Nat) (e : MapEntry) (c : List C), es[j]? = some e → kc[j]? = some c → ∃ ys, e.key = mkv P t ys ∧ Cells I w ys c) (h : findK ks cs kc 0 = some r) :
    (Instr.findKey t (mkv P t xs) es).run P w = .ok (r.map fun j => (j, ((es[j]?).map (·.val)).getD undef)) w := by
  obtain ⟨q, _⟩ := findK_run hk hx h1 es kc 0 r hl hes h
  obtain ⟨u, hu⟩ := eqk_under hk
  cases hz : isAggB P t with
  | true =>
    rw [if_pos hz] at q
    rw [run_findKey_eq w (by unfold isAggB at hz; rw [hu] at hz ⊢; cases u <;> simp_all)]
    simpa using q
  | false =>
    rw [if_neg (by simp [hz])] at q
    simp only [hu, Option.getD_some] at q
    rw [MapKept.run_findKey hu q]; simp

end
end Go.Vl

/- Maps, second part: reads of maps keep the relation. -/
namespace Go.Vl
open Go Go.RowKit

section
variable {P : Program} {G : Gl} {tr : List Nat} {n : Nat} {I0 : Ft} {M : Mx} {w0 : World} {I : Ft} {β : Nat → Option Nat} {ob : Loc → Option Nat} {s : S} {a : Act} {w : World} {o : Oper}
  {next : Act → World → Prop} {Q : Exit → Act → World → Prop} {base : Nat → Prop} {v : Value} {x y : V} {K : V → Prop}

theorem kdOf_map {d : TypeDesc} {k e : TypeId} (h : Vl.K.map k e = kdOf d) : d = .map k e := by cases d <;> simp_all [kdOf]

theorem keysOf_get {ag : Bool} : ∀ {r : List V} {kcs : List (List C)}, keysOf ag r = some kcs → r.length = 2 * kcs.length ∧ ∀ (j : Nat) (c : List C), kcs[j]? = some c → (r.getD (2 * j) .un).kcs ag = some c
  | [], kcs, h => by simp only [keysOf, Option.some.injEq] at h; subst h; exact ⟨rfl, by simp⟩
  | [_], kcs, h => by simp [keysOf] at h
  | k :: v :: r, kcs, h => by
    simp only [keysOf] at h
    split at h
    · rename_i q l h1 h2
      simp only [Option.some.injEq] at h; subst h
      obtain ⟨h3, h4⟩ := keysOf_get h2
      refine ⟨by simp [h3]; omega, fun j c hc => ?_⟩
      cases j with
      | zero => simp at hc; subst hc; exact h1
      | succ j =>
        rw [show 2 * (j + 1) = 2 * j + 1 + 1 by omega]
        simp only [List.getD_cons_succ]
        exact h4 j c (by simpa using hc)
    · cases h

theorem findK_some {ks : List EK} {k : List C} : ∀ {kcs : List (List C)} {i j : Nat}, findK ks k kcs i = some (some j) → ∃ q c, j = i + q ∧ kcs[q]? = some c ∧ c.length = ks.length ∧ eqCs ks k c = some true
  | [], i, j, h => by simp [findK] at h
  | c :: r, i, j, h => by
    simp only [findK] at h
    split at h
    · rename_i hl
      split at h
      · rename_i he
        simp only [Option.some.injEq] at h; subst h
        exact ⟨0, c, rfl, rfl, hl, he⟩
      · obtain ⟨q, c', rfl, h2, h3, h4⟩ := findK_some h
        exact ⟨q + 1, c', by omega, by simpa using h2, h3, h4⟩
      · cases h
    · cases h

theorem entCells_get : ∀ (es : List MapEntry) (j : Nat) (e : MapEntry), es[j]? = some e → (entCells es)[2 * j]? = some e.key ∧ (entCells es)[2 * j + 1]? = some e.val
  | [], j, e, h => by simp at h
  | x :: es, 0, e, h => by simp at h; subst h; exact ⟨rfl, rfl⟩
  | x :: es, j + 1, e, h => by
    obtain ⟨h1, h2⟩ := entCells_get es j e (by simpa using h)
    rw [show 2 * (j + 1) = 2 * j + 1 + 1 by omega]
    simp only [entCells, List.getElem?_cons_succ]
    exact ⟨h1, h2⟩
theorem entCells_len : ∀ es : List MapEntry, (entCells es).length = 2 * es.length
  | [] => rfl
  | x :: es => by simp [entCells, entCells_len es]; omega

theorem kcs_ok {ag : Bool} {kt : TypeId} (hag : ag = isAggB P kt) {ox : Option Nat} (h : LR base I β w ox v x) {c : List C} (hc : x.kcs ag = some c) : ∃ ys, v = mkv P kt ys ∧ Cells I w ys c := by
  cases x <;> simp only [V.kcs] at hc <;> try cases hc
  · split at hc
    · cases hc
    · rename_i hf
      simp only [Option.some.injEq] at hc; subst hc
      have hz : isAggB P kt = false := by rw [← hag]; simpa using hf
      refine ⟨#[v], by simp [mkv, hz], rfl, fun j c hc => ?_⟩
      cases j with
      | zero => simp at hc; subst hc; exact h.toC
      | succ j => simp at hc
  · split at hc
    · rename_i ht
      simp only [Option.some.injEq] at hc; subst hc
      have hz : isAggB P kt = true := by rw [← hag]; exact ht
      obtain ⟨vs, rfl, h1, h2⟩ := h.agg
      exact ⟨vs, by simp [mkv, hz], h1, h2⟩
    · cases hc

theorem dr_ok {ox : Option Nat} (h : LR base I β w ox v x) : DR I w v x.dr := by
  cases x <;> simp only [V.dr] <;> first | exact .un _ | skip
  · exact .c _ _ h.toC
  · simp only [LR] at h; exact h
  · exact .c _ _ h.1

theorem zeroOf_ok {et : TypeId} {e : TI} {z : V} (hi : ti P et = some e) (hz : zeroOf e = some z) (ha : zaB P et = true) : ∃ zv, (zeroValue et).run P w = .ok zv w ∧ ∀ (base : Nat → Prop) (β : Nat → Option Nat), LR base I β w none zv z := by
  obtain ⟨j, d, h1, h2, _, _, _, hag, hze, _⟩ := ti_spec hi
  unfold zaB at ha
  rw [h1] at ha
  simp only at ha
  unfold zeroOf at hz
  cases hzv : j.zero with
  | none => rw [hzv] at ha; cases ha
  | some zv =>
    rw [hzv] at ha hze
    refine ⟨zv, by simp [zeroValue, typeInfo, h1, hzv], fun base β => ?_⟩
    simp only at hze
    split at hz
    · rename_i zc' hagt hzc
      simp only [Option.some.injEq] at hz; subst hz
      rw [hzc] at hze
      rw [hagt] at hag
      cases zv <;> simp only [← hag, Bool.not_true, Bool.false_eq_true] at ha
      rename_i cs
      simp only [LR]
      refine .agg _ _ (by have := List.mapM_eq_some_length hze.symm; simpa [Value.cells] using this.symm) fun q c hc => ?_
      obtain ⟨u, hu, huc⟩ := List.mapM_eq_some_get hze.symm q c hc
      have : cs.getD q undef = u := by
        simp only [Value.cells, Array.getElem?_toList] at hu
        simp [hu]
      rw [this]; exact zc_ok huc
    · rename_i c hagf hzc
      simp only [Option.some.injEq] at hz; subst hz
      rw [hzc] at hze
      rw [hagf] at hag
      have hl := List.mapM_eq_some_length hze.symm
      obtain ⟨u, hu, huc⟩ := List.mapM_eq_some_get hze.symm 0 c rfl
      have : zv = u := by
        cases zv <;> simp only [← hag, Bool.not_false, Bool.false_eq_true] at ha <;> simpa [Value.cells] using hu
      rw [this]; exact .ofC (zc_ok huc)
    · cases hz

/-- A map in a world. -/
structure MapW (P : Program) (I : Ft) (M : Mx) (w0 : World) (β : Nat → Option Nat) (ob : Loc → Option Nat) (s : S) (w : World) (i : Nat) (bs : List Nat) (cl : Nat) (r : List V) (blk : Nat) (es : Array MapEntry) : Prop where
  lt : i < s.nb
  bx : s.bx i = .mk bs cl :: r
  bt : β i = some blk
  wr : Wr M w0 blk
  fr : ∀ o, ¬ I blk o
  heap : w.heap[blk]? = some (.map es cl)
  born : es.toList.map (·.born) = bs
  len : r.length = 2 * bs.length
  ent : ∀ (j : Nat) (e : MapEntry), es.toList[j]? = some e → LR (Wr M w0) I β w (ob (.b i (2 * j + 1))) e.key (r.getD (2 * j) .un) ∧ LR (Wr M w0) I β w (ob (.b i (2 * j + 2))) e.val (r.getD (2 * j + 1) .un)

theorem St.mapW (hst : St G n I0 M w0 I β ob s a w) {i blk cl : Nat} {bs : List Nat} {r : List V} (hi : i < s.nb) (hb : s.bx i = .mk bs cl :: r) (hβ : β i = some blk) : ∃ es, MapW P I M w0 β ob s w i bs cl r blk es := by
  obtain ⟨blk', cur, e1, e2, e3, e4, e5, e7⟩ := hst.bx i hi
  rw [hβ] at e1; cases e1
  have hm : mkOf (s.bx i) = some (bs, cl) := by rw [hb]; rfl
  unfold HB at e3
  rw [hm] at e3
  obtain ⟨es, q1, q2, q3, q4⟩ := e3
  refine ⟨es, hi, hb, hβ, e2, e7, q1, q2, by rw [hb, List.length_cons] at q4; omega, fun j e he => ?_⟩
  obtain ⟨c1, c2⟩ := entCells_get _ _ _ he
  have g1 : cur.getD (2 * j + 1) undef = e.key := by
    rw [Array.getD_eq_getD_getElem?, ← Array.getElem?_toList, q3]; simp [c1]
  have g2 : cur.getD (2 * j + 2) undef = e.val := by
    rw [Array.getD_eq_getD_getElem?, ← Array.getElem?_toList, q3, show 2 * j + 2 = (2 * j + 1) + 1 by omega]; simp [c2]
  have l1 := e5 (2 * j + 1)
  have l2 := e5 (2 * j + 2)
  rw [g1, hb] at l1
  rw [g2, hb, show 2 * j + 2 = (2 * j + 1) + 1 by omega] at l2
  simp only [List.getD_cons_succ] at l1 l2
  exact ⟨l1, l2⟩

theorem vmapAt_inv {T : TypeId} {K : Nat → List Nat → Nat → List V → Option Nat → V → Prop} (h : vmapAt P T s x y K) :
    ∃ i kt et tT tk te ks kc z bs cl r kcs res, ti P T = some tT ∧ tT.kd = .map kt et ∧ x = .mr i ∧ ti P kt = some tk ∧ tk.eqs = some ks ∧ ti P et = some te ∧ y.kcs tk.agg = some kc ∧ zeroOf te = some z ∧
      s.bx i = .mk bs cl :: r ∧ keysOf tk.agg r = some kcs ∧ findK ks kc kcs 0 = some res ∧ (i < s.nb ∧ kc.length = ks.length ∧ eqCs ks kc kc = some true ∧ zaB P et = true) ∧ K i bs cl r res z := by
  unfold vmapAt at h
  split at h
  · rename_i hT
    split at h
    · rename_i h2 h3
      split at h
      · rename_i h4 h5 h6
        split at h
        · rename_i h7
          split at h
          · rename_i h8
            exact ⟨_, _, _, _, _, _, _, _, _, _, _, _, _, _, hT, rfl, rfl, h2, rfl, h3, h4, h5, h6, h7, h8, h.1, h.2⟩
          · exact h.elim
        · exact h.elim
      · exact h.elim
    · exact h.elim
  · exact h.elim

theorem eqs_eqk {t : TypeId} {i : TI} {ks : List EK} (h : ti P t = some i) (hk : i.eqs = some ks) : eqk P 8 t = some ks := by
  obtain ⟨_, _, _, _, _, _, _, _, _, _, he, _⟩ := ti_spec h
  rw [hk] at he
  split at he
  · cases he
  · exact he.symm

theorem vmapAt_sound {T : TypeId} {K : Nat → List Nat → Nat → List V → Option Nat → V → Prop} {vx vy : Value} {ox oy : Option Nat} (hst : St G n I0 M w0 I β ob s a w) (h : vmapAt P T s x y K)
    (hx : LR (Wr M w0) I β w ox vx x) (hy : LR (Wr M w0) I β w oy vy y) :
    ∃ i bs cl r res z blk kt et es zv, K i bs cl r res z ∧ x = .mr i ∧ vx = .map (some blk) ∧ MapW P I M w0 β ob s w i bs cl r blk es ∧ P.underlying T = some (.map kt et) ∧
      (∀ em, (Instr.checkKey em 10000 kt vy).run P w = .ok () w) ∧
      (Instr.findKey kt vy es.toList).run P w = .ok (res.map fun j => (j, ((es.toList[j]?).map (·.val)).getD undef)) w ∧
      (∀ j, res = some j → ∃ e, es.toList[j]? = some e ∧ e.key = vy ∧ (Instr.keyThatStays e.key vy).run P w = .ok vy w) ∧
      (zeroValue et).run P w = .ok zv w ∧ LR (Wr M w0) I β w none zv z := by
  obtain ⟨i, kt, et, tT, tk, te, ks, kc, z, bs, cl, r, kcs, res, h1, h2, rfl, h3, h4, h5, h6, h7, h8, h9, h10, ⟨c1, c2, c3, c4⟩, hK⟩ := vmapAt_inv h
  obtain ⟨_, d, _, hu, hkd, _⟩ := ti_spec h1
  rw [h2] at hkd
  have hd := kdOf_map hkd
  subst hd
  have hek := eqs_eqk h3 h4
  have hag : tk.agg = isAggB P kt := by obtain ⟨_, _, _, _, _, _, _, h, _⟩ := ti_spec h3; exact h
  simp only [LR] at hx
  obtain ⟨blk, hβ, rfl⟩ := hx
  obtain ⟨es, hm⟩ := hst.mapW (P := P) c1 h8 hβ
  obtain ⟨xs, rfl, hxs⟩ := kcs_ok (P := P) hag hy h6
  obtain ⟨zv, hz1, hz2⟩ := zeroOf_ok (I := I) (w := w) h5 h7 c4
  obtain ⟨k1, k2⟩ := keysOf_get h9
  have hbl : es.toList.length = bs.length := by rw [← hm.born, List.length_map]
  have hkl : es.toList.length = kcs.length := by have := hm.len; omega
  have hes : ∀ (j : Nat) (e : MapEntry) (c : List C), es.toList[j]? = some e → kcs[j]? = some c → ∃ ys, e.key = mkv P kt ys ∧ Cells I w ys c := fun j e c he hc =>
    kcs_ok (P := P) hag (hm.ent j e he).1 (k2 j c hc)
  refine ⟨i, bs, cl, r, res, z, blk, kt, et, es, zv, hK, rfl, rfl, hm, hu, fun em => ?_, run_findK hek hxs c2 hkl hes h10, fun j hj => ?_, hz1, hz2 _ _⟩
  · exact checkKey_eqk em 8 kt ks hek 9992 xs (by rw [hxs.1]; exact c2)
  · subst hj
    obtain ⟨q, c, hq, hc, hl, he⟩ := findK_some h10
    have hlt : q < es.toList.length := by rw [hkl]; exact (List.getElem?_eq_some_iff.1 hc).1
    have hje : es.toList[j]? = some es.toList[q] := by rw [show j = q by omega]; exact List.getElem?_eq_getElem hlt
    refine ⟨_, hje, ?_⟩
    obtain ⟨ys, hkey, hys⟩ := hes j _ c hje (by rw [show j = q by omega]; exact hc)
    have := run_keyStays (P := P) (t := kt) hxs hys he c2 hl (fun hz => by
      have := eqk_one hek hz; omega)
    rw [hkey]
    exact ⟨this.1.symm, this.2⟩

theorem vlookup_sound {T : TypeId} {ok : Bool} {vx vy : Value} {ox oy : Option Nat} (hst : St G n I0 M w0 I β ob s a w) (h : vlookup P T s x y ok K)
    (hx : LR (Wr M w0) I β w ox vx x) (hy : LR (Wr M w0) I β w oy vy y) :
    ∃ z u, K z ∧ LR (Wr M w0) I β w none u z ∧ (Instr.lookup T vx vy ok).run P w = .ok u w := by
  unfold vlookup at h
  obtain ⟨i, bs, cl, r, res, z, blk, kt, et, es, zv, hK, rfl, rfl, hm, hu, hck, hfk, hres, hz1, hz2⟩ := vmapAt_sound hst h hx hy
  have hg := MapKept.run_getObj_map (P := P) hm.heap
  cases res with
  | some j =>
    obtain ⟨e, he, _, _⟩ := hres j rfl
    have hv := (hm.ent j e he).2
    simp only [Option.map_some, he, Option.getD_some] at hfk
    cases ok with
    | false =>
      simp only [Bool.false_eq_true, if_false] at hK
      exact ⟨_, e.val, hK, hv.fz none, by simp [Instr.lookup, run_underlying hu, hg, hck, hfk, Result.andThen]⟩
    | true =>
      simp only [if_true] at hK
      refine ⟨_, .tuple #[e.val, .bool true], hK, ?_, by simp [Instr.lookup, run_underlying hu, hg, hck, hfk, Result.andThen]⟩
      simp only [LR]
      refine .tup _ _ rfl fun q d hd => ?_
      match q with
      | 0 => simp at hd; subst hd; exact dr_ok hv
      | 1 => simp at hd; subst hd; exact .c _ _ (.lit _ rfl)
      | q + 2 => simp at hd
  | none =>
    simp only [Option.map_none] at hfk
    cases ok with
    | false =>
      simp only [Bool.false_eq_true, if_false] at hK
      exact ⟨_, zv, hK, hz2, by simp [Instr.lookup, run_underlying hu, hg, hck, hfk, hz1, Result.andThen]⟩
    | true =>
      simp only [if_true] at hK
      refine ⟨_, .tuple #[zv, .bool false], hK, ?_, by simp [Instr.lookup, run_underlying hu, hg, hck, hfk, hz1, Result.andThen]⟩
      simp only [LR]
      refine .tup _ _ rfl fun q d hd => ?_
      match q with
      | 0 => simp at hd; subst hd; exact dr_ok hz2
      | 1 => simp at hd; subst hd; exact .c _ _ (.lit _ rfl)
      | q + 2 => simp at hd

theorem find_born {es : List MapEntry} {b j : Nat} (h : (es.map (·.born)).findIdx? (· == b) = some j) : ∃ e, es[j]? = some e ∧ es.find? (·.born == b) = some e := by
  induction es generalizing j with
  | nil => simp at h
  | cons e es ih =>
    simp only [List.map_cons, List.findIdx?_cons] at h
    cases hb : (e.born == b) with
    | true => rw [hb] at h; simp at h; subst h; exact ⟨e, rfl, by simp [hb]⟩
    | false =>
      rw [hb] at h
      simp only [Bool.false_eq_true, if_false, Option.map_eq_some_iff] at h
      obtain ⟨q, hq, rfl⟩ := h
      obtain ⟨e', h1, h2⟩ := ih hq
      exact ⟨e', by simpa using h1, by simp [hb, h2]⟩

theorem ventry_sound {vx : Value} {ox : Option Nat} (hst : St G n I0 M w0 I β ob s a w) (h : ventry s x K) (hx : LR (Wr M w0) I β w ox vx x) :
    ∃ z u, K z ∧ LR (Wr M w0) I β w none u z ∧ (Instr.entry vx).run P w = .ok u w := by
  unfold ventry at h
  split at h
  · rename_i i since stepped seen
    split at h
    · rename_i bs cl r b hb hl
      split at h
      · rename_i j hj
        obtain ⟨⟨hi, rfl⟩, hK⟩ := h
        simp only [LR] at hx
        obtain ⟨blk, m, _, _, hβ, rfl, hh, _⟩ := hx
        obtain ⟨es, hm⟩ := hst.mapW (P := P) hi hb hβ
        have hj' := hj
        rw [← hm.born] at hj'
        obtain ⟨e, he, hf⟩ := find_born hj'
        obtain ⟨l1, l2⟩ := hm.ent j e he
        have hf' : es.find? (fun x => x.born == b) = some e := by rw [← Array.find?_toList]; exact hf
        have hg : (getObj blk).run P w = .ok (.mapIter (some m) since seen.toArray cl) w := by simp [getObj, Sem.run, hh]
        have hg2 := MapKept.run_getObj_map (P := P) hm.heap
        refine ⟨_, .tuple #[e.key, e.val], hK, ?_, ?_⟩
        · simp only [LR]
          refine .tup _ _ rfl fun q d hd => ?_
          match q with
          | 0 => simp at hd; subst hd; exact dr_ok l1
          | 1 => simp at hd; subst hd; exact dr_ok l2
          | q + 2 => simp at hd
        · simp [Instr.entry, hg, hg2, hf', hl, Result.andThen]
      · exact h.elim
    · exact h.elim
  · exact h.elim

theorem vrange_sound {T : TypeId} {vx : Value} {ox : Option Nat} (hst : St G n I0 M w0 I β ob s a w) (hd : ∀ d, o.dst = some d → d < n) (h : vrange P T s x K) (hx : LR (Wr M w0) I β w ox vx x) :
    ∃ z u w', K z ∧ (Instr.range T vx).run P w = .ok u w' ∧ SE G n I0 M w0 (s.after tr o z) (a.put o.dst u) w' := by
  unfold vrange at h
  split at h
  · rename_i hT
    obtain ⟨_, d, _, hu, hkd, _⟩ := ti_spec hT
    have hd' := kdOf_map hkd
    subst hd'
    split at h
    · rename_i i bs cl r hb
      obtain ⟨hi, hK⟩ := h
      simp only [LR] at hx
      obtain ⟨blk, hβ, rfl⟩ := hx
      obtain ⟨es, hm⟩ := hst.mapW (P := P) hi hb hβ
      have hg := MapKept.run_getObj_map (P := P) hm.heap
      have hs := hst.allocOwn (.mapIter (some blk) cl #[] cl)
      have hfr := hst.fresh (Nat.le_refl _)
      refine ⟨_, .pointer (some ⟨w.heap.size, 0, none⟩), w.alloc (.mapIter (some blk) cl #[] cl), hK, by simp [Instr.range, run_underlying hu, hg, Result.andThen], ?_⟩
      refine .fin hs hd (o' := some w.heap.size) ?_ fun b hb => ?_
      · simp only [LR]
        exact ⟨w.heap.size, blk, rfl, .inl hst.below.size, hβ, rfl, heap_alloc_new w _, fun o ho => by have := hst.ibnd _ _ ho; omega⟩
      · cases hb
        refine ⟨⟨by rw [World.size_alloc]; omega, .inl hst.below.size⟩, hfr.2, fun L hL => absurd hL (hfr.1 L)⟩
    · exact h.elim
  · exact h.elim

end
end Go.Vl

/- Values without memory: every operation keeps the relation. -/
namespace Go.Vl
open Go Go.RowKit

section
variable {P : Program} {G : Gl} {tr : List Nat} {n : Nat} {I0 : Ft} {M : Mx} {w0 : World} {I : Ft} {β : Nat → Option Nat} {ob : Loc → Option Nat} {s : S} {a : Act} {w : World} {o : Oper}
  {next : Act → World → Prop} {Q : Exit → Act → World → Prop} {base : Nat → Prop} {v : Value} {x y : V}

theorem parts_map (l : List (Nat × Operand)) (f : Operand → V) : (l.map fun (i, x) => (i, f x)) = l.map fun p => (p.1, f p.2) := rfl

theorem vw_fz (hst : St G n I0 M w0 I β ob s a w) (x : Operand) : (∃ ox, LR (Wr M w0) I β w ox (a.eval x) (vw s (ev G s x)).fz) ∨ ∃ es, (vw s (ev G s x)).fz = .c (.sl es) ∧ RD I w (a.eval x) es := by
  have hx := ev_sound hst x
  cases he : ev G s x with
  | ms i off len cap sz =>
    rw [he] at hx
    simp only [LR] at hx
    simp only [vw]
    cases hv : viewC s i off len sz with
    | none => left; exact ⟨none, by simp only [V.fz, LR]; exact .un _⟩
    | some c =>
      obtain ⟨es, rfl, hrd⟩ := view_rd hst hv hx
      right; exact ⟨es, rfl, hrd⟩
  | _ => left; rw [he] at hx; exact ⟨none, hx.fz none⟩

theorem vw_rd (hst : St G n I0 M w0 I β ob s a w) (x : Operand) (ys : List (List C)) (h : (vw s (ev G s x)).fz = .c (.sl ys)) : RD I w (a.eval x) ys := by
  rcases vw_fz hst x with ⟨ox, hx⟩ | ⟨es, he, hrd⟩
  · rw [h] at hx; exact .ofCR hx.toC
  · rw [h] at he; cases he; exact hrd

theorem vw_ow {x : V} {E : Option (TypeId × Nat)} {es : List (List C)} (h : vw s x = .ow E es) : x = .ow E es := by
  cases x <;> simp only [vw] at h <;> try exact h
  split at h <;> cases h

theorem VYK_sound {K : V → Prop} (hst : St G n I0 M w0 I β ob s a w) (hd : ∀ d, o.dst = some d → d < n) (h : VYK P G tr o s K)
    (hk : ∀ a' w' x, K x → SE G n I0 M w0 (s.after tr o x) a' w' → next a' w') : o.wp P a w next Q := by
  have pure_ : ∀ {sem : Sem Value} {z : V} {u : Value}, execOp a.eval o = (do pure (.value (← sem))) → K z → LR (Wr M w0) I β w none u z → sem.run P w = .ok u w → o.wp P a w next Q := by
    intro sem z u he hz hlr hrun
    refine wp_value (v' := u) (w' := w) ?_ (hk _ _ _ hz (.fin0 hst hd hlr))
    rw [he]; simp [hrun]
  have full : ∀ {sem : Sem Value} {z : V} {u : Value} {w' : World}, execOp a.eval o = (do pure (.value (← sem))) → K z → sem.run P w = .ok u w' → SE G n I0 M w0 (s.after tr o z) (a.put o.dst u) w' → o.wp P a w next Q := by
    intro sem z u w' he hz hrun hse
    refine wp_value (v' := u) (w' := w') ?_ (hk _ _ _ hz hse)
    rw [he]; simp [hrun]
  obtain ⟨dst, op, type, pos, after, guard⟩ := o
  cases op <;> simp only [VYK] at h <;> try exact h.elim
  case move x =>
    have hrun : (execOp a.eval { dst, op := .move x, type, pos, after, guard }).run P w = .ok (.value (a.eval x)) w := rfl
    split at h
    · rename_i htr
      exact wp_value hrun (hk _ _ _ h (move_ok hst hd (x := x) (by cases x <;> simp [consT, htr])))
    · exact wp_value hrun (hk _ _ _ h (copy_ok hst hd x))
  case assign x =>
    have hrun : (execOp a.eval { dst, op := .assign x, type, pos, after, guard }).run P w = .ok (.value (a.eval x)) w := rfl
    exact wp_value hrun (hk _ _ _ h (move_ok hst hd (x := x) (by cases x <;> simp [consT])))
  case pick c b b' =>
    split at h
    · rename_i p hc
      have hcv : a.eval c = .bool p := by have := ev_sound hst c; rw [hc] at this; exact this.lit
      refine wp_value (v' := if p then a.eval b else a.eval b') (w' := w) ?_ (hk _ _ _ h (.fin0 hst hd ?_))
      · simp [execOp, hcv, asBool]
      · cases p
        · exact ev_fz hst b'
        · exact ev_fz hst b
    · exact h.elim
  case build T parts =>
    obtain ⟨z, u, hz, hlr, hrun⟩ := vbuild_sound hst h
    exact pure_ rfl hz hlr hrun
  case buildSlice T len parts =>
    obtain ⟨z, u, w', hz, hrun, hse⟩ := vbuildSlice_sound (tr := tr) hst hd h
    exact full rfl hz hrun hse
  case load T x =>
    obtain ⟨z, u, hz, hlr, hrun⟩ := vload_sound hst h (ev_sound hst x)
    exact pure_ rfl hz hlr hrun
  case binOp op T x y yT =>
    obtain ⟨u, hf, hz, hrun⟩ := vbin_sound h (ev_sound hst x) (ev_sound hst y) x y
    exact pure_ rfl hz (.ofLit hf) hrun
  case unOp op T x =>
    obtain ⟨u, hf, hz, hrun⟩ := vun_sound h (ev_sound hst x)
    exact pure_ rfl hz (.ofLit hf) hrun
  case convert src dst' x =>
    obtain ⟨z, u, w', hz, hrun, hse⟩ := vconv_sound (tr := tr) hst hd h (vw_fz hst x)
    exact full rfl hz hrun hse
  case makeFunc f first captured =>
    obtain ⟨⟨h1, h2⟩, h⟩ := h
    have pr : ∀ (l : Array Operand), (l.toList.map (ev G s)).all V.isPR = true → ∀ j x, (l.toList.map (ev G s))[j]? = some x → PR I β w ((l.map a.eval).getD j undef) x := by
      intro l hl j x hx
      have hm := List.mem_of_getElem? hx
      have hp := List.all_eq_true.1 hl x hm
      simp only [List.getElem?_map, Option.map_eq_some_iff] at hx
      obtain ⟨X, hX, rfl⟩ := hx
      have hlr := ev_sound hst X
      have : (l.map a.eval).getD j undef = a.eval X := by
        rw [Array.getElem?_toList] at hX
        simp [hX]
      rw [this]
      cases hx : ev G s X <;> rw [hx] at hp hlr <;> simp only [V.isPR] at hp <;> try cases hp
      · exact hlr.toC
      · simp only [LR] at hlr; exact hlr
      · simp only [LR] at hlr; exact hlr
      · simp only [LR] at hlr; exact hlr
    refine wp_value (v' := .func f (first.map a.eval) (captured.map a.eval)) (w' := w) rfl (hk _ _ _ h (.fin0 hst hd ?_))
    simp only [LR]
    exact ⟨_, _, rfl, by simp, by simp, pr first h1, pr captured h2⟩
  case lookup T x k ok =>
    obtain ⟨z, u, hz, hlr, hrun⟩ := vlookup_sound hst h (ev_sound hst x) (ev_sound hst k)
    exact pure_ rfl hz hlr hrun
  case range T x =>
    obtain ⟨z, u, w', hz, hrun, hse⟩ := vrange_sound (tr := tr) hst hd h (ev_sound hst x)
    exact full rfl hz hrun hse
  case entry x =>
    obtain ⟨z, u, hz, hlr, hrun⟩ := ventry_sound hst h (ev_sound hst x)
    exact pure_ rfl hz hlr hrun
  case slice T x lo hi mx =>
    obtain ⟨z, u, hz, hlr, hrun⟩ := vslice_sound hst h (ev_fz hst x)
    exact pure_ rfl hz hlr hrun
  case fieldAddr T x f =>
    obtain ⟨z, u, hz, hlr, hrun⟩ := vfieldAddr_sound h (ev_sound hst x)
    exact pure_ rfl hz hlr hrun
  case field T x f =>
    obtain ⟨z, u, hz, hlr, hrun⟩ := vfield_sound h (ev_sound hst x)
    exact pure_ rfl hz hlr hrun
  case indexAddr T x i =>
    obtain ⟨z, u, hz, hlr, hrun⟩ := vindexAddr_sound h (ev_fz hst x) (ev_sound hst i)
    exact pure_ rfl hz hlr hrun
  case index T x i =>
    obtain ⟨z, u, hz, hlr, hrun⟩ := vindex_sound h (ev_sound hst x) (ev_sound hst i)
    exact pure_ rfl hz hlr hrun
  case extract x i =>
    split at h
    · rename_i ds hx
      split at h
      · rename_i d hdi
        have hlr := ev_sound hst x
        rw [hx] at hlr
        simp only [LR] at hlr
        generalize hvv : a.eval x = vv at hlr
        cases hlr with
        | tup vs _ h1 h2 =>
          have hlt : i < vs.size := by rw [h1]; exact (List.getElem?_eq_some_iff.1 hdi).1
          have hdr := h2 i d hdi
          refine pure_ (u := vs.getD i undef) rfl h ?_ (by simp [hvv, Instr.extract, Array.getElem?_eq_getElem hlt])
          generalize vs.getD i undef = vv' at hdr
          cases d <;> simp only [LR] <;> first | exact hdr | (cases hdr; done)
      · exact h.elim
    · exact h.elim
  case call c =>
    obtain ⟨callee, args, ts⟩ := c
    cases callee with
    | value f => exact vcall_sound (tr := tr) (f := f) (args := args) (ts := ts) rfl hst hd h hk
    | invoke r m => exact h.elim
    | builtin b =>
      have hres : ∀ sem : Sem Value, builtin b ts type (args.map fun | .const _ => true | _ => false) (args.map a.eval) = (do pure (.value (← sem))) →
          execOp a.eval { dst, op := .call { callee := .builtin b, args := args, argTypes := ts }, type, pos, after, guard } = (do pure (.value (← sem))) := fun sem hs => by
        simp only [execOp, resolve, invoke, pure_bind]
        exact hs
      have hap : (b = .append ∧ vbuiltin P .append ts.toList (args.toList.map fun x => vw s (ev G s x)) K) ∨ (b ≠ .append ∧ vbuiltin P b ts.toList (args.toList.map (ev G s)) K) := by
        cases b <;> first | exact .inl ⟨rfl, h⟩ | exact .inr ⟨by simp, h⟩
      clear h
      rcases hap with ⟨rfl, h⟩ | ⟨hnb, h⟩
      · unfold vbuiltin at h
        split at h <;> first | cases ‹Builtin.append = _› | skip
        · rename_i t t' x y hts hargs
          split at h
          · rename_i htt
            subst htt
            obtain ⟨X, Y, hX, rfl, rfl⟩ : ∃ X Y, args.toList = [X, Y] ∧ x = vw s (ev G s X) ∧ y = vw s (ev G s Y) := by
              cases ha : args.toList with
              | nil => simp [ha] at hargs
              | cons X l =>
                cases l with
                | nil => simp [ha] at hargs
                | cons Y l => simp only [ha, List.map_cons, List.cons.injEq, List.map_eq_nil_iff] at hargs; exact ⟨X, Y, by rw [hargs.2.2], hargs.1.symm, hargs.2.1.symm⟩
            have e1 : ts = #[t, t] := Array.ext' hts
            have e2 : args.map a.eval = #[a.eval X, a.eval Y] := by apply Array.ext'; simp [hX]
            subst e1
            have h' : vappend P t (ev G s X) (vw s (ev G s Y)).fz K := by
              cases hx : vw s (ev G s X) with
              | ow E es => rw [hx] at h; rw [vw_ow hx]; exact h
              | _ => rw [hx] at h; simp [vappend] at h
            obtain ⟨z, u, w', hz, hrun, hse⟩ := vappend_sound (tr := tr) (o := { dst, op := .call { callee := .builtin .append, args := args, argTypes := #[t, t] }, type, pos, after, guard }) (ty := type) hst hd
              (by simp only [consT, hX]; cases X <;> rfl) h' (vw_rd hst Y)
            refine full (sem := Builtin.append_ #[t, t] type (args.map a.eval)) (hres _ rfl) hz ?_ hse
            rw [e2]; exact hrun
          · exact h.elim
        · exact h.elim
      · unfold vbuiltin at h
        split at h
        · rename_i t x hts hargs
          obtain ⟨X, hX, rfl⟩ : ∃ X, args.toList = [X] ∧ x = ev G s X := by
            cases ha : args.toList with
            | nil => simp [ha] at hargs
            | cons X l => simp only [ha, List.map_cons, List.cons.injEq, List.map_eq_nil_iff] at hargs; exact ⟨X, by rw [hargs.2], hargs.1.symm⟩
          obtain ⟨u, hf, hz, hrun⟩ := vlen_sound (ty := type) h (ev_sound hst X)
          have e1 : ts = #[t] := Array.ext' hts
          have e2 : args.map a.eval = #[a.eval X] := by apply Array.ext'; simp [hX]
          subst e1
          refine pure_ (sem := Builtin.len_ #[t] type (args.map a.eval)) (hres _ rfl) hz (.ofLit hf) ?_
          rw [e2]; exact hrun
        · exact absurd rfl hnb
        · obtain ⟨u, hf, hz, hrun⟩ := vmin_sound (P := P) (mx := false) hst h
          exact pure_ (sem := Builtin.min_ ts type (args.map a.eval)) (hres _ rfl) hz (.ofLit hf) hrun
        · obtain ⟨u, hf, hz, hrun⟩ := vmin_sound (P := P) (mx := true) hst h
          exact pure_ (sem := Builtin.max_ ts type (args.map a.eval)) (hres _ rfl) hz (.ofLit hf) hrun
        · exact h.elim

end
end Go.Vl

