/- Values without memory: '==' on structs and arrays. -/
import Derived.Test.YtbhfbbfifmnniaaDoorVlSound1
import Derived.ChangeKeysEq
set_option linter.unusedSimpArgs false
set_option linter.unusedVariables false
namespace Go.Vl
open Go Go.RowKit

section
variable {P : Program} {I : Ft} {w : World}

theorem beq_bytes (a b : ByteArray) : (a == b) = decide (a = b) := by
  rw [Bool.eq_iff_iff, decide_eq_true_iff]
  constructor
  · intro h
    obtain ⟨⟨x⟩⟩ := a
    obtain ⟨⟨y⟩⟩ := b
    have : ((⟨x⟩ : Array UInt8) == ⟨y⟩) = true := h
    simp at this
    subst this; rfl
  · rintro rfl
    obtain ⟨⟨x⟩⟩ := a
    show ((⟨x⟩ : Array UInt8) == ⟨x⟩) = true
    simp
theorem beq_toList (a b : ByteArray) : (a.toList == b.toList) = decide (a = b) := by rw [← beq_toListBytes, beq_bytes]

/-- Cells and what they mean. -/
def Cells (I : Ft) (w : World) (xs : Array Value) (cs : List C) : Prop := xs.size = cs.length ∧ ∀ j c, cs[j]? = some c → CR I w (xs.getD j undef) c

theorem Cells.extract {xs : Array Value} {cs : List C} (h : Cells I w xs cs) (a b : Nat) (hb : a + b ≤ xs.size) : Cells I w (xs.extract a (a + b)) ((cs.drop a).take b) := by
  have hs := h.1
  refine ⟨by simp; omega, fun j c hc => ?_⟩
  rw [List.getElem?_take] at hc
  split at hc
  · rename_i hj
    rw [List.getElem?_drop] at hc
    have := h.2 (a + j) c hc
    have e : (xs.extract a (a + b)).getD j undef = xs.getD (a + j) undef := by
      simp [Array.getElem?_extract]
      rw [if_pos (by omega)]
    rw [e]; exact this
  · cases hc

def mkv (P : Program) (t : TypeId) (xs : Array Value) : Value := if isAggB P t then .agg xs else xs.getD 0 undef

theorem run_isAgg (t : TypeId) (d : TypeDesc) (h : P.underlying t = some d) : (isAgg t).run P w = .ok (isAggB P t) w := by
  unfold isAgg isAggB
  simp only [Sem.run_bind, run_underlying h, Result.andThen_ok, h]
  cases d <;> rfl

theorem run_part (t : TypeId) (d : TypeDesc) (h : P.underlying t = some d) (cs : Array Value) (off : Nat) (hb : off + P.cellsOf t ≤ cs.size) (h1 : isAggB P t = false → P.cellsOf t = 1) :
    (part t cs off).run P w = .ok (mkv P t (cs.extract off (off + P.cellsOf t))) w := by
  obtain ⟨i, hi⟩ := info_of_underlying h
  unfold part mkv
  simp only [Sem.run_bind, run_isAgg t d h, Result.andThen_ok]
  cases hb' : isAggB P t with
  | true => simp [run_sizeOf w hi]
  | false =>
    have := h1 hb'
    simp only [Bool.false_eq_true, if_false]
    have hlt : off < cs.size := by omega
    simp only [Array.getElem?_eq_getElem hlt]
    have hm : 0 < min (off + 1) cs.size - off := by omega
    simp [Array.getElem?_extract, this, hlt, hm]

theorem eqCs_append : ∀ (a b : List EK) (cs ds : List C) (r : Bool), eqCs (a ++ b) cs ds = some r → ∃ p q, eqCs a (cs.take a.length) (ds.take a.length) = some p ∧ eqCs b (cs.drop a.length) (ds.drop a.length) = some q ∧ r = (p && q)
  | [], b, cs, ds, r, h => ⟨true, r, rfl, by simpa using h, by simp⟩
  | k :: a, b, cs, ds, r, h => by
    cases cs with
    | nil => simp [eqCs] at h
    | cons c cs =>
      cases ds with
      | nil => simp [eqCs] at h
      | cons d ds =>
        simp only [List.cons_append, eqCs] at h
        split at h
        · rename_i p q h1 h2
          obtain ⟨p', q', e1, e2, e3⟩ := eqCs_append a b cs ds q h2
          refine ⟨p && p', q', ?_, by simpa using e2, ?_⟩
          · simp [eqCs, h1, e1]
          · simp only [Option.some.injEq] at h; rw [← h, e3, Bool.and_assoc]
        · cases h

theorem eqCs_take {ks : List EK} {cs ds : List C} {r : Bool} (h : eqCs ks cs ds = some r) : eqCs ks (cs.take ks.length) (ds.take ks.length) = some r := by
  have := eqCs_append ks [] cs ds r (by simpa using h)
  obtain ⟨p, q, e1, e2, e3⟩ := this
  simp [eqCs] at e2
  subst e2
  rw [e1, e3]; simp

theorem eqFs_spec (r : TypeId → Option (List EK)) : ∀ (fs : List Field) (acc ks : List EK), eqFs P r fs acc = some ks → ∃ rest, ks = acc ++ rest
  | [], acc, ks, h => ⟨[], by simp [eqFs] at h; simp [h]⟩
  | f :: fs, acc, ks, h => by
    simp only [eqFs] at h
    split at h
    · rename_i k1 _
      split at h
      · obtain ⟨rest, hr⟩ := eqFs_spec r fs _ _ h
        exact ⟨k1 ++ rest, by rw [hr, List.append_assoc]⟩
      · cases h
    · cases h

theorem eqk_one {d : Nat} {t : TypeId} {ks : List EK} (h : eqk P d t = some ks) (hz : isAggB P t = false) : ks.length = 1 := by
  cases d with
  | zero => simp [eqk] at h
  | succ d =>
    unfold eqk at h
    unfold isAggB at hz
    split at h <;> first | (simp only [Option.some.injEq] at h; subst h; rfl) | simp_all

theorem eqk_under {d : Nat} {t : TypeId} {ks : List EK} (h : eqk P d t = some ks) : ∃ u, P.underlying t = some u := by
  cases d with
  | zero => simp [eqk] at h
  | succ d =>
    unfold eqk at h
    cases hu : P.underlying t with
    | none => simp [hu] at h
    | some u => exact ⟨u, rfl⟩

theorem CR.lit_eq {v u : Value} (h : CR I w v (.lit u)) : v = u := by cases h; rfl

theorem eqC_int {c e : C} {r : Bool} (h : eqC .int c e = some r) : ∃ k a b, c = .lit (.int k a) ∧ e = .lit (.int k b) ∧ r = decide (a = b) := by
  unfold eqC at h
  split at h <;> first | contradiction | skip
  split at h
  · rename_i hk; subst hk; exact ⟨_, _, _, rfl, rfl, by simpa using h.symm⟩
  · cases h
theorem eqC_bool {c e : C} {r : Bool} (h : eqC .bool c e = some r) : ∃ a b, c = .lit (.bool a) ∧ e = .lit (.bool b) ∧ r = (a == b) := by
  unfold eqC at h
  split at h <;> first | contradiction | skip
  exact ⟨_, _, rfl, rfl, by simpa using h.symm⟩
theorem eqC_str {c e : C} {r : Bool} (h : eqC .str c e = some r) : ∃ a b, c = .lit (.string a) ∧ e = .lit (.string b) ∧ r = decide (a = b) := by
  unfold eqC at h
  split at h <;> first | contradiction | skip
  exact ⟨_, _, rfl, rfl, by simpa using h.symm⟩

theorem getD_of {xs : Array Value} {j : Nat} {v : Value} (h : xs.getD j undef = v) (hj : j < xs.size) : xs[j]? = some v := by
  simp [Array.getElem?_eq_getElem hj] at h ⊢; exact h

theorem eqk_sound : ∀ (d : Nat) (t : TypeId) (ks : List EK), eqk P d t = some ks → ∀ (D : Nat), d ≤ D → ∀ (xs ys : Array Value) (cs ds : List C) (r : Bool), Cells I w xs cs → Cells I w ys ds →
    xs.size = ks.length → ys.size = ks.length → eqCs ks cs ds = some r → (Op.equalIn D t (mkv P t xs) (mkv P t ys)).run P w = .ok r w := by
  intro d
  induction d with
  | zero => intro t ks h; simp [eqk] at h
  | succ d ih =>
    intro t ks h D hD xs ys cs ds r hx hy hxs hys hr
    obtain ⟨D, rfl⟩ : ∃ E, D = E + 1 := ⟨D - 1, by omega⟩
    have hD' : d ≤ D := by omega
    have scalar : ∀ k, ks = [k] → isAggB P t = false → ∃ c e, eqC k c e = some r ∧ CR I w (mkv P t xs) c ∧ CR I w (mkv P t ys) e := by
      intro k hk hz
      subst hk
      have h1 := hx.1; have h2 := hy.1
      simp at hxs hys
      rw [hxs] at h1; rw [hys] at h2
      obtain ⟨c, rfl⟩ := List.length_eq_one_iff.1 h1.symm
      obtain ⟨e, rfl⟩ := List.length_eq_one_iff.1 h2.symm
      simp only [eqCs] at hr
      split at hr
      · rename_i p q e1 e2
        simp only [Option.some.injEq] at e2 hr
        subst e2
        refine ⟨c, e, by rw [e1]; simpa using hr, ?_, ?_⟩
        · simp only [mkv, hz]; exact hx.2 0 c rfl
        · simp only [mkv, hz]; exact hy.2 0 e rfl
      · cases hr
    unfold eqk at h
    split at h
    · rename_i k hu
      simp only [Option.some.injEq] at h
      obtain ⟨c, e, he, h1, h2⟩ := scalar .int h.symm (by simp [isAggB, hu])
      obtain ⟨kk, a, b, rfl, rfl, rfl⟩ := eqC_int he
      rw [h1.lit_eq, h2.lit_eq, run_equalIn_int w D t _ k _ _ hu]
      congr 1
    · rename_i hu
      simp only [Option.some.injEq] at h
      obtain ⟨c, e, he, h1, h2⟩ := scalar .bool h.symm (by simp [isAggB, hu])
      obtain ⟨a, b, rfl, rfl, rfl⟩ := eqC_bool he
      rw [h1.lit_eq, h2.lit_eq, run_equalIn_bool' w D t _ _ hu]
    · rename_i hu
      simp only [Option.some.injEq] at h
      obtain ⟨c, e, he, h1, h2⟩ := scalar .str h.symm (by simp [isAggB, hu])
      obtain ⟨a, b, rfl, rfl, rfl⟩ := eqC_str he
      rw [h1.lit_eq, h2.lit_eq, run_equalIn_string w D t _ _ hu, beq_toList]
    · rename_i fs hu
      split at h
      · cases h
      · rename_i hst
        have hfo : P.fieldsOf t = fs := by simp [Program.fieldsOf, hu]
        have hag : isAggB P t = true := by simp [isAggB, hu]
        simp only [mkv, hag, if_true]
        rw [run_equalIn_struct w D t xs ys (by rw [hfo]; exact hu) (by simpa using hst), hfo]
        have key : ∀ (l : List Field) (acc : List EK), eqFs P (eqk P d) l acc = some ks → ∀ r, eqCs (ks.drop acc.length) (cs.drop acc.length) (ds.drop acc.length) = some r →
            (Op.eqFields D xs ys l).run P w = .ok r w := by
          intro l
          induction l with
          | nil =>
            intro acc h r hr
            simp only [eqFs, Option.some.injEq] at h
            subst h
            simp [eqCs] at hr
            subst hr
            simp [Op.eqFields]
          | cons f l ihl =>
            intro acc h r hr
            simp only [eqFs] at h
            split at h
            · rename_i k1 hk1
              split at h
              · rename_i hc
                obtain ⟨hn, hoff, hlen⟩ := hc
                obtain ⟨rest, hrest⟩ := eqFs_spec (P := P) _ _ _ _ h
                have e0 : ks.drop acc.length = k1 ++ rest := by rw [hrest, List.append_assoc, List.drop_left]
                rw [e0] at hr
                obtain ⟨p, q, e1, e2, e3⟩ := eqCs_append _ _ _ _ _ hr
                have hsz : acc.length + k1.length ≤ ks.length := by rw [hrest]; simp
                obtain ⟨u, hfu⟩ := eqk_under hk1
                have hone : isAggB P f.type = false → P.cellsOf f.type = 1 := fun hz => by rw [← hlen]; exact eqk_one hk1 hz
                have hpx := run_part (w := w) f.type u hfu xs f.offset (by rw [hoff, ← hlen, hxs]; exact hsz) hone
                have hpy := run_part (w := w) f.type u hfu ys f.offset (by rw [hoff, ← hlen, hys]; exact hsz) hone
                have hcx := hx.extract f.offset (P.cellsOf f.type) (by rw [hoff, ← hlen, hxs]; exact hsz)
                have hcy := hy.extract f.offset (P.cellsOf f.type) (by rw [hoff, ← hlen, hys]; exact hsz)
                have heq := ih f.type k1 hk1 D hD' _ _ _ _ p hcx hcy (by simp; omega) (by simp; omega) (by
                  rw [hoff, ← hlen]; exact e1)
                have hnext := ihl (acc ++ k1) h q (by
                  rw [List.length_append, ← List.drop_drop, ← List.drop_drop, ← List.drop_drop, e0, List.drop_left]
                  exact e2)
                simp only [Op.eqFields]
                rw [if_pos hn]
                simp only [Sem.run_bind, hpx, hpy, Result.andThen_ok, heq]
                subst e3
                cases p
                · simp
                · simpa using hnext
              · cases h
            · cases h
        exact key fs.toList [] h r (by simpa using hr)
    · rename_i m e hu
      split at h
      · rename_i k1 hk1
        split at h
        · rename_i hlen
          simp only [Option.some.injEq] at h
          have hag : isAggB P t = true := by simp [isAggB, hu]
          obtain ⟨u, heu⟩ := eqk_under hk1
          obtain ⟨i, hi⟩ := info_of_underlying heu
          simp only [mkv, hag, if_true]
          rw [run_equalIn_array w D xs ys hu hi]
          have hksl : ks.length = m * k1.length := by rw [← h]; simp
          have hone : isAggB P e = false → P.cellsOf e = 1 := fun hz => by rw [← hlen]; exact eqk_one hk1 hz
          have key : ∀ (c j : Nat), j + c = m → ∀ r, eqCs (List.replicate c k1).flatten (cs.drop (j * k1.length)) (ds.drop (j * k1.length)) = some r →
              (Op.eqItems D e (P.cellsOf e) xs ys (List.range' j c)).run P w = .ok r w := by
            intro c
            induction c with
            | zero => intro j _ r hr; simp [eqCs] at hr; subst hr; simp [Op.eqItems]
            | succ c ihc =>
              intro j hj r hr
              simp only [List.replicate_succ, List.flatten_cons] at hr
              obtain ⟨p, q, e1, e2, e3⟩ := eqCs_append _ _ _ _ _ hr
              have hsz : j * k1.length + k1.length ≤ ks.length := by
                rw [hksl, ← Nat.succ_mul]; exact Nat.mul_le_mul_right _ (by omega)
              have hpx := run_part (w := w) e u heu xs (j * P.cellsOf e) (by rw [← hlen, hxs]; exact hsz) hone
              have hpy := run_part (w := w) e u heu ys (j * P.cellsOf e) (by rw [← hlen, hys]; exact hsz) hone
              have hcx := hx.extract (j * P.cellsOf e) (P.cellsOf e) (by rw [← hlen, hxs]; exact hsz)
              have hcy := hy.extract (j * P.cellsOf e) (P.cellsOf e) (by rw [← hlen, hys]; exact hsz)
              have heq := ih e k1 hk1 D hD' _ _ _ _ p hcx hcy (by simp; rw [← hlen]; omega) (by simp; rw [← hlen]; omega) (by rw [← hlen]; exact e1)
              have hnext := ihc (j + 1) (by omega) q (by
                rw [Nat.succ_mul, ← List.drop_drop, ← List.drop_drop]; exact e2)
              simp only [List.range'_succ, Op.eqItems, Sem.run_bind, hpx, hpy, Result.andThen_ok, heq]
              subst e3
              cases p
              · simp
              · simpa using hnext
          rw [List.range_eq_range']
          exact key m 0 (by omega) r (by rw [h]; simpa using hr)
        · cases h
      · cases h
    · cases h

end
end Go.Vl
