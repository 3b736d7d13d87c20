/- Values without memory: a framework of this repository. Here: the abstract values, and what it means that a value in a world is one of them. -/
import Derived.WalkKit
import Derived.WalkSpells
import Derived.WalkLawsBesides
set_option linter.unusedSimpArgs false
set_option linter.unusedVariables false
namespace Go.Vl
open Go Go.RowKit

/-- A value that is its own meaning in every world. -/
def flat : Value → Bool
  | .agg _ | .tuple _ | .func .. | .iface .. => false
  | .pointer (some _) | .slice .. | .map (some _) | .chan (some _) => false
  | _ => true

/-- What one cell holds, for good. -/
inductive C where
  | lit (v : Value)
  | sl (es : List (List C))
  | rp (cs : List C) (k : Nat)
  | fn (f : Fn) (first caps : List C)

instance : Inhabited C := ⟨.sl []⟩

/-- What a slot holds. -/
inductive V where
  | un
  | sk
  | c (x : C)
  | agg (cs : List C)
  | tup (vs : List V)
  | ow (E : Option (TypeId × Nat)) (es : List (List C))
  | bp (i off : Nat)
  | clo (f : Fn) (first caps : List V)
  | ms (i off len cap sz : Nat)
  | mag (vs : List V)

instance : Inhabited V := ⟨.un⟩

abbrev Ft := Nat → Nat → Prop

inductive CR (I : Ft) (w : World) : Value → C → Prop
  | lit (v : Value) : flat v = true → CR I w v (.lit v)
  | nil (a : Option Addr) (cap : Nat) : (a = none → cap = 0) → CR I w (.slice a 0 cap) (.sl [])
  | sl (b off cap sz : Nat) (es : List (List C)) (f : Nat → Nat → Value) :
      es.length ≤ cap →
      (∀ e ∈ es, e.length = sz) →
      (∀ i j, i < es.length → j < sz → w.cell? ⟨b, off + i * sz + j, none⟩ = some (f i j) ∧ I b (off + i * sz + j)) →
      (∀ i j e c, es[i]? = some e → e[j]? = some c → CR I w (f i j) c) →
      CR I w (.slice (some ⟨b, off, none⟩) es.length cap) (.sl es)
  | rp (b off k : Nat) (cs : List C) (f : Nat → Value) :
      (∀ j, j < cs.length → w.cell? ⟨b, off + j, none⟩ = some (f j) ∧ I b (off + j)) →
      (∀ j c, cs[j]? = some c → CR I w (f j) c) →
      CR I w (.pointer (some ⟨b, off + k, none⟩)) (.rp cs k)
  | fn (f : Fn) (first caps : Array Value) (fs cs : List C) :
      first.size = fs.length → caps.size = cs.length →
      (∀ j c, fs[j]? = some c → CR I w (first.getD j undef) c) →
      (∀ j c, cs[j]? = some c → CR I w (caps.getD j undef) c) →
      CR I w (.func f first caps) (.fn f fs cs)

theorem CR.mono {I I' : Ft} {w w' : World} {v : Value} {c : C} (h : CR I w v c)
    (hI : ∀ b o, I b o → I' b o ∧ w'.cell? ⟨b, o, none⟩ = w.cell? ⟨b, o, none⟩) : CR I' w' v c := by
  induction h with
  | lit v hv => exact .lit v hv
  | nil a cap h => exact .nil a cap h
  | sl b off cap sz es f hc hs hcell _ ih =>
    refine .sl b off cap sz es f hc hs (fun i j hi hj => ?_) (fun i j e c he hc => ih i j e c he hc)
    obtain ⟨h1, h2⟩ := hcell i j hi hj
    obtain ⟨h3, h4⟩ := hI _ _ h2
    exact ⟨h4.trans h1, h3⟩
  | rp b off k cs f hcell _ ih =>
    refine .rp b off k cs f (fun j hj => ?_) (fun j c hc => ih j c hc)
    obtain ⟨h1, h2⟩ := hcell j hj
    obtain ⟨h3, h4⟩ := hI _ _ h2
    exact ⟨h4.trans h1, h3⟩
  | fn f first caps fs cs h1 h2 _ _ ih1 ih2 => exact .fn f first caps fs cs h1 h2 ih1 ih2

/-- A cell's value is no struct and no tuple. -/
theorem CR.oneCell {I : Ft} {w : World} {v : Value} {c : C} (h : CR I w v c) : v.oneCell' = true := by
  cases h with
  | lit v hv => cases v <;> simp_all [flat, Value.oneCell']
  | _ => rfl

theorem CR.notAgg {I : Ft} {w : World} {v : Value} {c : C} (h : CR I w v c) : v.cells = #[v] := by
  cases h with
  | lit v hv => cases v <;> simp_all [flat, Value.cells]
  | _ => rfl

theorem CR.sl_inv {I : Ft} {w : World} {v : Value} {es : List (List C)} (h : CR I w v (.sl es)) : ((∃ (a : Option Addr) (cap : Nat), v = .slice a 0 cap ∧ (a = none → cap = 0)) ∧ es = []) ∨
    ∃ (b off cap sz : Nat) (f : Nat → Nat → Value), v = .slice (some ⟨b, off, none⟩) es.length cap ∧ es.length ≤ cap ∧ (∀ e ∈ es, e.length = sz) ∧
      (∀ i j, i < es.length → j < sz → w.cell? ⟨b, off + i * sz + j, none⟩ = some (f i j) ∧ I b (off + i * sz + j)) ∧
      (∀ i j e c, es[i]? = some e → e[j]? = some c → CR I w (f i j) c) := by
  cases h with
  | nil a cap h => exact .inl ⟨⟨a, cap, rfl, h⟩, rfl⟩
  | sl b off cap sz es f h1 h2 h3 h4 => exact .inr ⟨b, off, cap, sz, f, rfl, h1, h2, h3, h4⟩

theorem CR.lit_inv {I : Ft} {w : World} {v u : Value} (h : CR I w v (.lit u)) : v = u ∧ flat u = true := by
  cases h with
  | lit v hv => exact ⟨rfl, hv⟩

theorem CR.fn_inv {I : Ft} {w : World} {v : Value} {f : Fn} {fs cs : List C} (h : CR I w v (.fn f fs cs)) :
    ∃ vf vc : Array Value, v = .func f vf vc ∧ vf.size = fs.length ∧ vc.size = cs.length ∧ (∀ j c, fs[j]? = some c → CR I w (vf.getD j undef) c) ∧ (∀ j c, cs[j]? = some c → CR I w (vc.getD j undef) c) := by
  cases h with
  | fn f vf vc fs cs h1 h2 h3 h4 => exact ⟨vf, vc, rfl, h1, h2, h3, h4⟩

theorem CR.rp_inv {I : Ft} {w : World} {v : Value} {cs : List C} {k : Nat} (h : CR I w v (.rp cs k)) :
    ∃ (b off : Nat) (f : Nat → Value), v = .pointer (some ⟨b, off + k, none⟩) ∧ (∀ j, j < cs.length → w.cell? ⟨b, off + j, none⟩ = some (f j) ∧ I b (off + j)) ∧
      (∀ j c, cs[j]? = some c → CR I w (f j) c) := by
  cases h with
  | rp b off k cs f h1 h2 => exact ⟨b, off, f, rfl, h1, h2⟩

inductive DR (I : Ft) (w : World) : Value → V → Prop
  | un (v : Value) : DR I w v .un
  | sk : DR I w undef .sk
  | c (v : Value) (x : C) : CR I w v x → DR I w v (.c x)
  | agg (vs : Array Value) (cs : List C) : vs.size = cs.length → (∀ j c, cs[j]? = some c → CR I w (vs.getD j undef) c) → DR I w (.agg vs) (.agg cs)
  | tup (vs : Array Value) (ds : List V) : vs.size = ds.length → (∀ j d, ds[j]? = some d → DR I w (vs.getD j undef) d) → DR I w (.tuple vs) (.tup ds)

theorem DR.mono {I I' : Ft} {w w' : World} {v : Value} {x : V} (h : DR I w v x)
    (hI : ∀ b o, I b o → I' b o ∧ w'.cell? ⟨b, o, none⟩ = w.cell? ⟨b, o, none⟩) : DR I' w' v x := by
  induction h with
  | un v => exact .un v
  | sk => exact .sk
  | c v x h => exact .c v x (h.mono hI)
  | agg vs cs h1 h2 => exact .agg vs cs h1 fun j c hc => (h2 j c hc).mono hI
  | tup vs ds h1 _ ih => exact .tup vs ds h1 ih

/-- The owner of a slice that can be appended to: nobody relies on what lies behind its length; 'ob' is its block, if it has one of its own. -/
def OwnR (base : Nat → Prop) (I : Ft) (w : World) (E : Option (TypeId × Nat)) (es : List (List C)) (ob : Option Nat) (v : Value) : Prop :=
  CR I w v (.sl es) ∧
  ((ob = none ∧ E = none ∧ ∃ a, v = .slice a es.length es.length) ∨
   (∃ e blk cap cur sz, ob = some blk ∧ E = some (e, sz) ∧ v = .slice (some ⟨blk, 0, none⟩) es.length cap ∧ base blk ∧
      w.heap[blk]? = some (.cells cur e (0, 0)) ∧ es.length ≤ cap ∧ cap ≤ maxLen ∧ cur.size = cap * sz ∧ (∀ x ∈ es, x.length = sz) ∧
      (∀ o, I blk o → o < es.length * sz)))

/-- A pointer into a box, or a value that is there for good. -/
def PR (I : Ft) (β : Nat → Option Nat) (w : World) (v : Value) : V → Prop
  | .bp i off => ∃ blk, β i = some blk ∧ v = .pointer (some ⟨blk, off, none⟩)
  | .ms i off len cap _ => len ≤ cap ∧ ∃ blk off' cap', cap ≤ cap' ∧ β i = some blk ∧ (cap' = 0 ∨ off' = off) ∧ v = .slice (some ⟨blk, off', none⟩) len cap'
  | .c x => CR I w v x
  | _ => False

def LR (base : Nat → Prop) (I : Ft) (β : Nat → Option Nat) (w : World) (ob : Option Nat) (v : Value) : V → Prop
  | .ow E es => OwnR base I w E es ob v
  | .bp i off => ∃ blk, β i = some blk ∧ v = .pointer (some ⟨blk, off, none⟩)
  | .clo f fs cs => ∃ vf vc : Array Value, v = .func f vf vc ∧ vf.size = fs.length ∧ vc.size = cs.length ∧
      (∀ j x, fs[j]? = some x → PR I β w (vf.getD j undef) x) ∧ (∀ j x, cs[j]? = some x → PR I β w (vc.getD j undef) x)
  | .ms i off len cap _ => len ≤ cap ∧ ∃ blk off' cap', cap ≤ cap' ∧ β i = some blk ∧ (cap' = 0 ∨ off' = off) ∧ v = .slice (some ⟨blk, off', none⟩) len cap'
  | .mag vs => ∃ cells : Array Value, v = .agg cells ∧ cells.size = vs.length ∧ ∀ j x, vs[j]? = some x → PR I β w (cells.getD j undef) x
  | x => DR I w v x

theorem PR.mono {I I' : Ft} {β β' : Nat → Option Nat} {w w' : World} {v : Value} {x : V} (h : PR I β w v x)
    (hI : ∀ b o, I b o → I' b o ∧ w'.cell? ⟨b, o, none⟩ = w.cell? ⟨b, o, none⟩) (hβ : ∀ i b, β i = some b → β' i = some b) : PR I' β' w' v x := by
  cases x <;> simp only [PR] at h ⊢
  · exact h.mono hI
  · obtain ⟨blk, h1, h2⟩ := h; exact ⟨blk, hβ _ _ h1, h2⟩
  · obtain ⟨h0, blk, o', c', hc, h1, h2⟩ := h; exact ⟨h0, blk, o', c', hc, hβ _ _ h1, h2⟩

theorem OwnR.mono {base : Nat → Prop} {I I' : Ft} {w w' : World} {E : Option (TypeId × Nat)} {es : List (List C)} {ob : Option Nat} {v : Value} (h : OwnR base I w E es ob v)
    (hI : ∀ b o, I b o → I' b o ∧ w'.cell? ⟨b, o, none⟩ = w.cell? ⟨b, o, none⟩)
    (hob : ∀ b, ob = some b → w'.heap[b]? = w.heap[b]? ∧ ∀ o, I' b o → I b o) : OwnR base I' w' E es ob v := by
  obtain ⟨h1, h2⟩ := h
  refine ⟨h1.mono hI, ?_⟩
  rcases h2 with h2 | ⟨e, blk, cap, cur, sz, hob', hE, hv, hb, hh, hc, hm, hs, hl, hf⟩
  · exact .inl h2
  · obtain ⟨h3, h4⟩ := hob blk hob'
    exact .inr ⟨e, blk, cap, cur, sz, hob', hE, hv, hb, h3.trans hh, hc, hm, hs, hl, fun o ho => hf o (h4 o ho)⟩

theorem LR.mono {base : Nat → Prop} {I I' : Ft} {β β' : Nat → Option Nat} {w w' : World} {ob : Option Nat} {v : Value} {x : V} (h : LR base I β w ob v x)
    (hI : ∀ b o, I b o → I' b o ∧ w'.cell? ⟨b, o, none⟩ = w.cell? ⟨b, o, none⟩) (hβ : ∀ i b, β i = some b → β' i = some b)
    (hob : ∀ b, ob = some b → w'.heap[b]? = w.heap[b]? ∧ ∀ o, I' b o → I b o) : LR base I' β' w' ob v x := by
  cases x <;> simp only [LR] at h ⊢
  case ow => exact h.mono hI hob
  case bp => obtain ⟨blk, h1, h2⟩ := h; exact ⟨blk, hβ _ _ h1, h2⟩
  case ms => obtain ⟨h0, blk, o', c', hc, h1, h2⟩ := h; exact ⟨h0, blk, o', c', hc, hβ _ _ h1, h2⟩
  case mag => obtain ⟨cs, h1, h2, h3⟩ := h; exact ⟨cs, h1, h2, fun j x hx => (h3 j x hx).mono hI hβ⟩
  case clo => obtain ⟨vf, vc, h1, h2, h3, h4, h5⟩ := h; exact ⟨vf, vc, h1, h2, h3, fun j x hx => (h4 j x hx).mono hI hβ, fun j x hx => (h5 j x hx).mono hI hβ⟩
  all_goals exact h.mono hI

def up {α : Type} (f : Nat → α) (i : Nat) (v : α) : Nat → α := fun j => if j = i then v else f j

@[simp] theorem up_same {α : Type} (f : Nat → α) (i : Nat) (v : α) : up f i v i = v := by simp [up]
theorem up_ne {α : Type} (f : Nat → α) {i j : Nat} (v : α) (h : j ≠ i) : up f i v j = f j := by simp [up, h]
theorem up_apply {α : Type} (f : Nat → α) (i j : Nat) (v : α) : up f i v j = if j = i then v else f j := rfl
theorem up_self {α : Type} (f : Nat → α) (i : Nat) : up f i (f i) = f := by
  funext j; simp only [up]; split <;> simp_all
theorem up_comm {α : Type} (f : Nat → α) {i j : Nat} (v u : α) (h : i ≠ j) : up (up f i v) j u = up (up f j u) i v := by
  funext k; simp only [up]; split <;> split <;> simp_all

/-- The state of an activation: its slots, its boxes. -/
structure S where
  fr : Nat → V
  bx : Nat → List V
  nb : Nat

inductive Loc where
  | t (i : Nat)
  | b (i j : Nat)
  deriving DecidableEq

/-- What a function gets from outside: blocks that it may write, and boxes. -/
structure Mx where
  m : Nat → Prop
  e : Nat → Option Nat

/-- The blocks that may be written: those that came after the start, and some that were there. -/
def Wr (M : Mx) (w0 : World) (b : Nat) : Prop := w0.heap.size ≤ b ∨ M.m b

/-- What was there is as it was, but for some blocks. -/
structure BelowM (M : Mx) (w w' : World) : Prop where
  os : w'.os = w.os
  tape : w'.tape = w.tape
  output : w'.output = w.output
  size : w.heap.size ≤ w'.heap.size
  block : ∀ k, k < w.heap.size → ¬ M.m k → w'.heap[k]? = w.heap[k]?

theorem BelowM.refl (M : Mx) (w : World) : BelowM M w w := ⟨rfl, rfl, rfl, Nat.le_refl _, fun _ _ _ => rfl⟩
theorem BelowM.grown {M : Mx} {a w w' : World} {row : Option Nat} (h : BelowM M a w) (hg : w.grownBy w' row) (hr : ∀ k, row = some k → Wr M a k) : BelowM M a w' :=
  ⟨hg.os.trans h.os, hg.tape.trans h.tape, hg.output.trans h.output, Nat.le_trans h.size hg.size, fun k hk hM =>
    (hg.block k (Nat.lt_of_lt_of_le hk h.size) (fun e => by rcases hr k e.symm with h1 | h1; omega; exact hM h1)).trans (h.block k hk hM)⟩
theorem Wr.new {M : Mx} {a w : World} (h : BelowM M a w) {b : Nat} (hb : w.heap.size ≤ b) : Wr M a b := .inl (Nat.le_trans h.size hb)

structure St (G : Nat → Option (List C)) (n : Nat) (I0 : Ft) (M : Mx) (w0 : World) (I : Ft) (β : Nat → Option Nat) (ob : Loc → Option Nat) (s : S) (a : Act) (w : World) : Prop where
  size : a.tmps.size = n
  defers : a.defers = []
  below : BelowM M w0 w
  ilow : ∀ b o, I0 b o → I b o
  kept : ∀ b o, I0 b o → w.cell? ⟨b, o, none⟩ = w0.cell? ⟨b, o, none⟩
  ihigh : ∀ b o, I b o → I0 b o ∨ Wr M w0 b
  ibnd : ∀ b o, I b o → b < w.heap.size
  fr : ∀ t, LR (Wr M w0) I β w (ob (.t t)) (a.tmps.getD t undef) (s.fr t)
  bx : ∀ i, i < s.nb → ∃ blk cur T, β i = some blk ∧ Wr M w0 blk ∧ w.heap[blk]? = some (.cells cur T (0, 0)) ∧ (s.bx i).length ≤ cur.size ∧
    (∀ j, LR (Wr M w0) I β w (ob (.b i j)) (cur.getD j undef) ((s.bx i).getD j .un)) ∧ (∀ u ∈ cur, u.oneCell' = true) ∧ (∀ o, ¬ I blk o)
  bnone : ∀ i, s.nb ≤ i → β i = none
  ext : ∀ i b, M.e i = some b → β i = some b
  bnew : ∀ i b, β i = some b → M.e i = some b ∨ w0.heap.size ≤ b
  binj : ∀ i j b, β i = some b → β j = some b → i = j
  oinj : ∀ L L' b, ob L = some b → ob L' = some b → L = L'
  obx : ∀ L b i, ob L = some b → β i ≠ some b
  obnd : ∀ L b, ob L = some b → b < w.heap.size ∧ Wr M w0 b
  glob : ∀ g cs, G g = some cs → CR I w (.pointer (some ⟨g, 0, none⟩)) (.rp cs 0)

end Go.Vl
