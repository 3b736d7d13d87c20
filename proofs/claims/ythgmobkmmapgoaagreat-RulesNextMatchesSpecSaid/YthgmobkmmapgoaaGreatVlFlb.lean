/- Maps, fifth part: maps that are sets, and maps that count. -/
import Derived.Test.YthgmobkmmapgoaaGreatVlPack
set_option linter.unusedSimpArgs false
set_option linter.unusedVariables false
namespace Go.Vl
open Go Go.RowKit
set_option linter.unusedSectionVars false
section
variable {P : Program} {α : Type} [DecidableEq α] {c : α → List C} {s : S} {T kt et : TypeId} {tT tk te : TI} {ks : List EK} {K : S → Prop} {KV : V → Prop} {i : Nat}
def insM (l : List α) (a : α) : List α := if a ∈ l then l else l ++ [a]
theorem mem_insM {l : List α} {a b : α} : b ∈ insM l a ↔ b ∈ l ∨ b = a := by
 unfold insM
 split
 ·rename_i h
  exact ⟨.inl, fun h' => by rcases h' with h' | rfl; exact h'; exact h⟩
 ·simp
theorem findIdx_mem {l : List α} {a : α} : (l.findIdx? (fun b => decide (a = b))).isSome = decide (a ∈ l) := by
 rw [List.findIdx?_isSome, Bool.eq_iff_iff]
 simp only [List.any_eq_true, decide_eq_true_eq]
 exact ⟨fun ⟨x, h1, h2⟩ => h2 ▸ h1, fun h => ⟨a, h, rfl⟩⟩
theorem findIdx_at {l : List α} {a : α} {j : Nat} (h : l.findIdx? (fun b => decide (a = b)) = some j) : l[j]? = some a := by
 obtain ⟨h1, h2, _⟩ := List.findIdx?_eq_some_iff_getElem.1 h
 rw [List.getElem?_eq_getElem h1, of_decide_eq_true h2]
def mmap {β : Type} (c : α → List C) (h : β → V) (bs : List Nat) (cl : Nat) (l : List (α × β)) : List V := .mk bs cl :: ents (fun a => .agg (c a)) h l
theorem mmap_ltB {β : Type} {h : β → V} (hh : ∀ b m, (h b).ltB m = true) {bs : List Nat} {cl m : Nat} : ∀ {l : List (α × β)}, (mmap c h bs cl l).all (fun x => x.ltB m) = true := by
 intro l
 have : ∀ l : List (α × β), (ents (fun a => V.agg (c a)) h l).all (fun x => x.ltB m) = true := fun l => by
  induction l with
  | nil => rfl
  | cons p l ih => obtain ⟨a, b⟩ := p; simp only [ents, List.all_cons, ih, hh]; rfl
 simp only [mmap, List.all_cons, this]; rfl
theorem mmap_at {β : Type} {h : β → V} {z : β} (hT : ti P T = some tT) (hm : tT.kd = .map kt et) (hk : ti P kt = some tk) (hag : tk.agg = true) (hks : tk.eqs = some ks) (he : ti P et = some te) (hz : zeroOf te = some (h z)) (ha : zaB P et = true)
  (hl : ∀ a, (c a).length = ks.length) (heq : ∀ a b, eqCs ks (c a) (c b) = some (decide (a = b))) {a : α} {bs : List Nat} {cl : Nat} {l : List (α × β)} (hb : s.bx i = mmap c h bs cl l) (hi : i < s.nb)
  {KM : Nat → List Nat → Nat → List V → Option Nat → V → Prop} (hK : KM i bs cl (ents (fun a => .agg (c a)) h l) (((l.map (·.1)).findIdx? (fun b => decide (a = b)))) (h z)) : vmapAt P T s (.mr i) (.agg (c a)) KM := by
 refine vmapAt_of (ks := ks) (kc := c a) (kcs := (l.map (·.1)).map c) hT hm hk hks he (by simp [V.kcs, hag]) hz hb ?_ (findK_map hl heq a _ 0) hi (hl a) (by rw [heq]; simp) ha ?_
 ·rw [keysOf_ents (c := c) (fun a => by simp [V.kcs, hag]), List.map_map]; rfl
 ·have : (Option.map (0 + ·) ((l.map (·.1)).findIdx? (fun b => decide (a = b)))) = (l.map (·.1)).findIdx? (fun b => decide (a = b)) := by
   cases (l.map (·.1)).findIdx? (fun b => decide (a = b)) <;> simp
  rw [this]; exact hK
def boV (b : Bool) : V := .c (.lit (.bool b))
def mset (c : α → List C) (bs : List Nat) (cl : Nat) (l : List α) : List V := mmap c boV bs cl (l.map fun a => (a, true))
theorem mset_ltB {bs : List Nat} {cl m : Nat} {l : List α} : (mset c bs cl l).all (fun x => x.ltB m) = true := mmap_ltB fun _ _ => rfl
theorem map_pair {l : List α} : (l.map fun a => (a, true)).map (·.1) = l := by
 rw [List.map_map]; conv => rhs; rw [← List.map_id l]
 rfl
theorem mset_look (hT : ti P T = some tT) (hm : tT.kd = .map kt et) (hk : ti P kt = some tk) (hag : tk.agg = true) (hks : tk.eqs = some ks) (he : ti P et = some te) (hz : zeroOf te = some (boV false)) (ha : zaB P et = true)
  (hl : ∀ a, (c a).length = ks.length) (heq : ∀ a b, eqCs ks (c a) (c b) = some (decide (a = b))) {a : α} {bs : List Nat} {cl : Nat} {l : List α} (hb : s.bx i = mset c bs cl l) (hi : i < s.nb)
  (hK : KV (.c (.lit (.bool (decide (a ∈ l)))))) : vlookup P T s (.mr i) (.agg (c a)) false KV := by
 unfold vlookup
 refine mmap_at (h := boV) (z := false) hT hm hk hag hks he hz ha hl heq hb hi ?_
 rw [map_pair]
 have hmem := findIdx_mem (l := l) (a := a)
 cases hf : l.findIdx? (fun b => decide (a = b)) with
 | none =>
  rw [hf] at hmem
  rw [← hmem] at hK
  exact hK
 | some j =>
  rw [hf] at hmem
  rw [← hmem] at hK
  have hj := findIdx_at hf
  have e := (ents_val (f := fun a => V.agg (c a)) (h := boV) (l.map fun a => (a, true)) j (a, true) (by simp [hj])).1
  simp only [e]
  exact hK
def mfun {β : Type} (c : α → List C) (h : β → V) (bs : List Nat) (cl : Nat) (kl : List α) (f : α → β) : List V := mmap c h bs cl (kl.map fun k => (k, f k))
structure MOk (bs : List Nat) (cl : Nat) (kl : List α) : Prop where
 len : bs.length = kl.length
 bnd : bs.Nodup
 lt : ∀ b ∈ bs, b < cl
 knd : kl.Nodup
theorem MOk.nil : MOk [] 0 ([] : List α) := ⟨rfl, List.nodup_nil, by simp, List.nodup_nil⟩
theorem mfun_range {β : Type} {h : β → V} {f : α → β} {kl : List α} {bs : List Nat} {cl : Nat} (hT : ti P T = some tT) (hm : tT.kd = .map kt et) (hb : s.bx i = mfun c h bs cl kl f) (hi : i < s.nb) (hK : KV (.it i cl cl [])) : vrange P T s (.mr i) KV := by
 obtain ⟨kd, a1, a2, a3, a4, a5, a6⟩ := tT
 simp only at hm; subst hm
 unfold vrange
 simp only [hT, hb, mfun, mmap]
 exact ⟨hi, hK⟩
def leftM (bs seen : List Nat) : Nat := (bs.filter fun b => !decide (b ∈ seen)).length
theorem leftM_lt {bs seen : List Nat} {b : Nat} (hb : b ∈ bs) (hn : b ∉ seen) : leftM bs (seen ++ [b]) < leftM bs seen := by
 unfold leftM
 have e : (fun x => !decide (x ∈ seen ++ [b])) = fun x => (!decide (x = b)) && (!decide (x ∈ seen)) := by
  funext x; by_cases h1 : x ∈ seen <;> by_cases h2 : x = b <;> simp [h1, h2]
 rw [e, ← List.filter_filter]
 have hm : b ∈ bs.filter (fun x => !decide (x ∈ seen)) := List.mem_filter.2 ⟨hb, by simp [hn]⟩
 refine Nat.lt_of_le_of_ne (List.length_filter_le _ _) fun h => ?_
 have := List.length_filter_eq_length_iff.1 h b hm
 simp at this
end
end Go.Vl
/- Values without memory: a box that holds a list of structs; places in it. -/
namespace Go.Vl
open Go Go.RowKit
section
variable {P : Program} {G : Gl} {tr : List Nat} {fr : Nat → V} {bx : Nat → List V} {nb : Nat} {K : S → Prop} {KV : V → Prop} {Q : VE → S → Prop}
variable {α : Type} {c : α → List C} {sz : Nat}
theorem set_mid {P S : List α} {x y : α} {k : Nat} (hk : P.length = k) : (P ++ x :: S).set k y = P ++ y :: S := by
 subst hk; simp
def flb (c : α → List C) (l : List α) : List V := (l.map c).flatten.map .c
theorem flb_cons {x : α} {l : List α} : flb c (x :: l) = (c x).map .c ++ flb c l := by simp [flb]
theorem flb_append {l m : List α} : flb c (l ++ m) = flb c l ++ flb c m := by simp [flb]
theorem flb_len (hc : ∀ x, (c x).length = sz) : ∀ l : List α, (flb c l).length = l.length * sz
 | [] => by simp [flb]
 | x :: l => by rw [flb_cons, List.length_append, flb_len hc l]; simp [hc, Nat.succ_mul, Nat.add_comm]
theorem list_at {l : List α} {i : Nat} {x : α} (h : l[i]? = some x) : ∃ a b, l = a ++ x :: b ∧ a.length = i := by
 obtain ⟨hi, hx⟩ := List.getElem?_eq_some_iff.1 h
 refine ⟨l.take i, l.drop (i + 1), ?_, by simp; omega⟩
 rw [← hx, List.getElem_cons_drop, List.take_append_drop]
theorem flb_drop (hc : ∀ x, (c x).length = sz) {l : List α} {i : Nat} {x : α} (h : l[i]? = some x) : ((flb c l).drop (i * sz)).take sz = (c x).map .c := by
 obtain ⟨a, b, rfl, rfl⟩ := list_at h
 rw [flb_append, ← flb_len hc a, List.drop_left, flb_cons]
 exact List.take_left' (by simp [hc])
theorem flb_set (hc : ∀ x, (c x).length = sz) {l : List α} {i : Nat} {y : α} (h : i < l.length) : setV (flb c l) (i * sz) ((c y).map .c) = flb c (l.set i y) := by
 obtain ⟨a, b, e, rfl⟩ := list_at (List.getElem?_eq_getElem h)
 rw [e, set_mid rfl]
 simp only [flb_append, flb_cons, setV]
 rw [← flb_len hc a, List.take_left]
 have e1 : (flb c a).length + ((c y).map V.c).length = (flb c a).length + ((c l[a.length]).map V.c).length := by simp [hc]
 rw [e1, ← List.drop_drop, List.drop_left, List.drop_left]
 simp
theorem ld_flb (hc : ∀ x, (c x).length = sz) {b i o : Nat} {l : List α} {x : α} (ho : o = i * sz) (hb : b < nb) (h : l[i]? = some x) (hK : KV (.agg (c x))) : ldA nb b (flb c l) o sz KV := by
 subst ho
 unfold ldA
 rw [flb_drop hc h]
 have h2 : ((c x).map V.c).map V.fz = (c x).map V.c := by simp [List.map_map, Function.comp_def, V.fz]
 have h3 : ((c x).map V.c).all V.isPO = true := by simp [List.all_map, Function.comp_def, V.isPO]
 rw [h2, h3, aggV_map]
 exact ⟨hb, ⟨by simp [hc], rfl⟩, hK⟩
theorem ix_flb {T e : TypeId} {i j : TI} {k : Nat} {n : Int} {b l cp z : Nat} (hT : ti P T = some i) (hk : i.kd = .slice e) (hj : ti P e = some j) (hs : j.size = z) (hz : z ≠ 0) (hn : n = (k : Nat)) (hl : k < l)
  (hK : KV (.bp b (k * z))) : vindexAddr P T (.ms b 0 l cp z) (.c (.lit (.int .i64 n))) KV := by
 subst hn
 refine ia_ms hT hk hj hs hz (Int.natCast_nonneg k) (by omega) ?_
 simpa using hK
theorem isMb_flb {α : Type} {c : α → List C} {l : List α} : isMb (flb c l) = false := isMb_map
theorem stq (hc : ∀ x, (c x).length = sz) {i : Nat} {y : α} {l l' : List α} (hi : i < l.length) (h : l.set i y = l') : ((i * sz + sz ≤ (flb c l).length) = True) ∧ setV (flb c l) (i * sz) ((c y).map .c) = flb c l' := by
 subst h
 refine ⟨?_, flb_set hc hi⟩
 rw [flb_len hc, eq_iff_iff, iff_true]
 have : i * sz + sz = (i + 1) * sz := by rw [Nat.succ_mul]
 rw [this]; exact Nat.mul_le_mul_right _ hi
theorem le_box {l : List (Nat × V)} {k : Nat} {L : List α} (hok : l.all (fun p => p.2.ltB 1) = true) (hk : k ≤ 1) (hn : 1 ≤ nb) (h1 : FL l fr) (h2 : bx 0 = flb c L) : S.Le k (hdS l [flb c L]) ⟨fr, bx, nb⟩ := by
 refine le_hd ?_ hk hn h1 ⟨h2, trivial⟩
 simp only [leOk, List.all_cons, List.all_nil, Bool.and_true, Bool.and_eq_true]
 exact ⟨hok, all_ltB_c _ _⟩
theorem call_box {s : S} {f : V} {args all cargs : List V} {g : FuncId} {K : S → V → Prop} {r : V} {b0 b1 : List V} (hc : calleeV f args = some (g, all)) (hf : FnB P G g cargs [b0] r [b1]) (hall : all.map V.fz = cargs)
  (hn : s.nb = 1) (hb : s.bx 0 = b0) (hK : K ⟨s.fr, up s.bx 0 b1, 1⟩ r) : vcallB P G s f args K := by
 refine callB_all hc hf hall (by simp [hn]) ⟨hb, trivial⟩ ?_
 have e : (fun i => if i < [b1].length then [b1].getD i [] else s.bx i) = up s.bx 0 b1 := by
  funext i
  cases i with
  | zero => simp
  | succ i => simp [up]
 rw [e]; exact hK
theorem argsB_ok {L : List α} {args : List V} (h : args.all (fun v => v.ltB 1) = true) : xargsOk args [flb c L] = true := by
 simp only [xargsOk, List.all_cons, List.all_nil, Bool.and_true, Bool.and_eq_true]
 exact ⟨h, all_ltB_c _ _⟩
end
end Go.Vl
/- Values without memory: boxes that are lists: pieces, views. -/
namespace Go.Vl
open Go Go.RowKit
section
variable {α : Type} {c : α → List C} {sz : Nat}
theorem box_flb {fr : Nat → V} {bx : Nat → List V} {nb b : Nat} {l : List α} (hb : b < nb) (h : bx b = flb c l) : boxC ⟨fr, bx, nb⟩ b = some (l.map c).flatten := by
 unfold boxC; simp only [hb, if_true, h, flb]
 generalize (l.map c).flatten = cs
 induction cs with
 | nil => rfl
 | cons x cs ih => simp only [List.map_cons, List.mapM_cons, ih]; rfl
theorem flb_take (hc : ∀ x, (c x).length = sz) {l : List α} {i : Nat} (h : i ≤ l.length) : (flb c l).take (i * sz) = flb c (l.take i) := by
 have e : flb c l = flb c (l.take i) ++ flb c (l.drop i) := by rw [← flb_append, List.take_append_drop]
 rw [e]
 exact List.take_left' (by rw [flb_len hc, List.length_take, Nat.min_eq_left h])
theorem flb_drop2 (hc : ∀ x, (c x).length = sz) {l : List α} {i : Nat} (h : i ≤ l.length) : (flb c l).drop (i * sz) = flb c (l.drop i) := by
 have e : flb c l = flb c (l.take i) ++ flb c (l.drop i) := by rw [← flb_append, List.take_append_drop]
 rw [e]
 exact List.drop_left' (by rw [flb_len hc, List.length_take, Nat.min_eq_left h])
theorem flb_put (hc : ∀ x, (c x).length = sz) {l m : List α} {i : Nat} (h : i + m.length ≤ l.length) : setV (flb c l) (i * sz) (flb c m) = flb c (l.take i ++ m ++ l.drop (i + m.length)) := by
 unfold setV
 have e : i * sz + (flb c m).length = (i + m.length) * sz := by rw [flb_len hc, Nat.add_mul]
 rw [e, flb_take hc (by omega), flb_drop2 hc (by omega), ← flb_append, ← flb_append]
theorem flat_drop (hc : ∀ x, (c x).length = sz) {l : List α} {a : Nat} (h : a ≤ l.length) : (l.map c).flatten.drop (a * sz) = ((l.drop a).map c).flatten := by
 have e : (l.map c).flatten = ((l.take a).map c).flatten ++ ((l.drop a).map c).flatten := by rw [← List.flatten_append, ← List.map_append, List.take_append_drop]
 have hl : ∀ m : List α, (m.map c).flatten.length = m.length * sz := fun m => by have := flb_len hc m; unfold flb at this; rwa [List.length_map] at this
 rw [e]
 exact List.drop_left' (by rw [hl, List.length_take, Nat.min_eq_left h])
theorem chunks_flatT (hc : ∀ x, (c x).length = sz) : ∀ (n : Nat) (l : List α), n ≤ l.length → chunks sz n (l.map c).flatten = (l.take n).map c
 | 0, _, _ => rfl
 | n + 1, [], h => by simp at h
 | n + 1, x :: l, h => by
  simp only [List.map_cons, List.flatten_cons, chunks, List.take_succ_cons]
  rw [List.take_left' (hc x), List.drop_left' (hc x), chunks_flatT hc n l (by simpa using h)]
theorem view_flbT (hc : ∀ x, (c x).length = sz) {fr : Nat → V} {bx : Nat → List V} {nb b o a n : Nat} {l : List α} (hb : b < nb) (h : bx b = flb c l) (ho : o = a * sz) (hn : a + n ≤ l.length) : viewC ⟨fr, bx, nb⟩ b o n sz = some (.sl (((l.drop a).take n).map c)) := by
 subst ho
 unfold viewC; rw [box_flb hb h]
 have hl : (l.map c).flatten.length = l.length * sz := by have := flb_len hc l; unfold flb at this; rwa [List.length_map] at this
 have hm : a * sz + n * sz ≤ l.length * sz := by rw [← Nat.add_mul]; exact Nat.mul_le_mul_right _ hn
 simp only [hl, hm, if_true]
 rw [flat_drop hc (by omega), chunks_flatT hc n _ (by rw [List.length_drop]; omega)]
end
theorem sl_ms {P : Program} {T e : TypeId} {i j : TI} {b off len cap sz l h m : Nat} {lo hi mx : Option V} {K : V → Prop} (hT : ti P T = some i) (hk : i.kd = .slice e) (hE : ti P e = some j) (hs : j.size = sz) (h1 : optInt 0 lo = some (l : Nat)) (h2 : optInt len hi = some (h : Nat)) (h3 : optInt cap mx = some (m : Nat))
  (hlh : l ≤ h) (hhm : h ≤ m) (hmc : m ≤ cap) (hx : mx.isSome = true → hi.isSome = true) (hK : K (.ms b (off + l * sz) (h - l) (m - l) sz)) : vslice P T (.ms b off len cap sz) lo hi mx K := by
 obtain ⟨kd, a, b', c, d, f, g⟩ := i; simp only at hk; subst hk
 simp only [vslice, hT, hE, h1, h2, h3]
 exact ⟨⟨hs, by omega, by omega, by omega, by omega, hx⟩, hK⟩
section
variable {P : Program} {G : Gl} {α : Type} {c : α → List C} {sz : Nat} {KV : V → Prop} {nb : Nat}
theorem ix_ms {T e : TypeId} {i j : TI} {n : Int} {b o a k l cp z : Nat} (hT : ti P T = some i) (hk : i.kd = .slice e) (hj : ti P e = some j) (hs : j.size = z) (hz : z ≠ 0) (ho : o = a * z) (hn : n = (k : Nat)) (hl : k < l)
  (hK : KV (.bp b ((a + k) * z))) : vindexAddr P T (.ms b o l cp z) (.c (.lit (.int .i64 n))) KV := by
 subst hn; subst ho
 refine ia_ms hT hk hj hs hz (Int.natCast_nonneg k) (by omega) ?_
 rw [Int.toNat_natCast, ← Nat.add_mul]; exact hK
theorem flb_ren {ρ : Nat → Nat} {l : List α} : (flb c l).map (V.ren ρ) = flb c l := by
 unfold flb; rw [List.map_map]; rfl
theorem cells_ren {ρ : Nat → Nat} {l : List C} : (l.map V.c).map (V.ren ρ) = l.map V.c := by rw [List.map_map]; rfl
theorem take_set_at {α : Type} {L : List α} {k : Nat} {x : α} (h : k < L.length) : (L.set k x).take (k + 1) = L.take k ++ [x] := by
 rw [List.take_succ_eq_append_getElem (by simpa using h), List.getElem_set_self, List.take_set_of_le (Nat.le_refl _)]
end
set_option linter.unusedSectionVars false
section
variable {P : Program} {α : Type} [DecidableEq α] {c : α → List C} {s : S} {T kt et : TypeId} {tT tk te : TI} {ks : List EK} {K : S → Prop} {i : Nat}
def mseq (c : α → List C) (l : List α) : List V := mset c (List.range l.length) l.length l
theorem mseq_nil : mseq c ([] : List α) = [.mk [] 0] := rfl
theorem mseq_ltB {m : Nat} {l : List α} : (mseq c l).all (fun x => x.ltB m) = true := mset_ltB
theorem mseq_set (hT : ti P T = some tT) (hm : tT.kd = .map kt et) (hk : ti P kt = some tk) (hag : tk.agg = true) (hks : tk.eqs = some ks) (he : ti P et = some te) (hz : zeroOf te = some (boV false)) (ha : zaB P et = true)
  (hl : ∀ a, (c a).length = ks.length) (heq : ∀ a b, eqCs ks (c a) (c b) = some (decide (a = b))) {a : α} {l : List α} (hb : s.bx i = mseq c l) (hi : i < s.nb)
  (hK : K { s with bx := up s.bx i (mseq c (insM l a)) }) : vmapSet P T s (.mr i) (.agg (c a)) (.c (.lit (.bool true))) K := by
 unfold vmapSet
 refine mmap_at (h := boV) (z := false) hT hm hk hag hks he hz ha hl heq hb hi ?_
 rw [map_pair]
 have hmem := findIdx_mem (l := l) (a := a)
 cases hf : l.findIdx? (fun b => decide (a = b)) with
 | none =>
  rw [hf] at hmem
  have hn : a ∉ l := by simpa using hmem.symm
  rw [show insM l a = l ++ [a] by simp [insM, hn]] at hK
  have e : List.range (l ++ [a]).length = List.range l.length ++ [l.length] := by rw [List.length_append, List.length_singleton, List.range_succ]
  simp only [mseq, mset, mmap, List.map_append, List.map_cons, List.map_nil, ents_append, ents, e] at hK
  rw [List.length_append, List.length_singleton] at hK
  exact hK
 | some j =>
  rw [hf] at hmem
  have hn : a ∈ l := by simpa using hmem.symm
  rw [show insM l a = l by simp [insM, hn]] at hK
  have hj := findIdx_at hf
  have e := ents_set (f := fun a => V.agg (c a)) (h := boV) (l.map fun a => (a, true)) j a true true (by simp [hj])
  have e2 : (l.map fun a => (a, true)).set j (a, true) = l.map fun a => (a, true) := by
   apply List.ext_getElem?
   intro k
   rw [List.getElem?_set]
   split
   ·rename_i h; subst h; split <;> simp_all
   ·rfl
  rw [e2] at e
  simp only [V.fz]
  rw [show (V.c (.lit (.bool true))) = boV true from rfl, e]
  exact hK
theorem mseq_range {KV : V → Prop} {l : List α} (hT : ti P T = some tT) (hm : tT.kd = .map kt et) (hb : s.bx i = mseq c l) (hi : i < s.nb) (hK : KV (.it i l.length l.length [])) : vrange P T s (.mr i) KV :=
 mfun_range (h := boV) (f := fun _ => true) (kl := l) (bs := List.range l.length) (cl := l.length) hT hm hb hi hK
theorem mseq_next {l : List α} {seen : List Nat} (hb : s.bx i = mseq c l) (hi : i < s.nb) {K : Option V → V → Prop}
  (h0 : (∀ b, b < l.length → b ∈ seen) → K none (.tup [.c (.lit (.bool false))])) (h1 : ∀ b, b < l.length → b ∉ seen → ∀ x y, K (some (.it i l.length l.length (seen ++ [b]))) (.tup [.c (.lit (.bool true)), x, y])) : vnext s (.it i l.length l.length seen) K := by
 unfold vnext
 simp only [hb, mseq, mset, mmap]
 refine ⟨⟨hi, Nat.le_refl _, fun b h => List.mem_range.1 h⟩, fun h => h0 fun b hb => h b (List.mem_range.2 hb), fun j b hj hb => h1 b (List.mem_range.1 (List.mem_of_getElem? hj)) hb _ _⟩
theorem mseq_at {KV : V → Prop} {l : List α} {seen : List Nat} {b : Nat} (hb : s.bx i = mseq c l) (hi : i < s.nb) (hm : b < l.length) (hK : KV (.tup [.agg (c l[b]), .c (.lit (.bool true))])) : ventry s (.it i l.length l.length (seen ++ [b])) KV := by
 unfold ventry
 simp only [hb, mseq, mset, mmap, List.getLast?_append, List.getLast?_singleton, Option.some_or]
 have hf : (List.range l.length).findIdx? (· == b) = some b := by
  rw [List.findIdx?_eq_some_iff_getElem]
  refine ⟨by simpa using hm, by simp, fun k hk => by simp; omega⟩
 have e := ents_val (f := fun a => V.agg (c a)) (h := boV) (l.map fun a => (a, true)) b (l[b], true) (by simp [hm])
 simp only [hf, e.1, e.2]
 exact ⟨⟨hi, trivial⟩, hK⟩
theorem mseq_ren {ρ : Nat → Nat} {l : List α} : (mseq c l).map (V.ren ρ) = mseq c l := by
 have : ∀ l : List (α × Bool), (ents (fun a => V.agg (c a)) boV l).map (V.ren ρ) = ents (fun a => V.agg (c a)) boV l := fun l => by
  induction l with
  | nil => rfl
  | cons p l ih => obtain ⟨a, b⟩ := p; simp only [ents, List.map_cons, ih]; rfl
 simp only [mseq, mset, mmap, List.map_cons, this]; rfl
end
theorem callB_sel {P : Program} {G : Gl} {s : S} {f : V} {args all cargs : List V} {g : FuncId} {K : S → V → Prop} {r : V} {b0 b1 : List (List V)} (ρ : List Nat) (hc : calleeV f args = some (g, all)) (hf : FnB P G g cargs b0 r b1)
  (hall : all.map V.fz = cargs.map (V.ren (rho ρ s.nb))) (hl : ρ.length = b0.length) (hnd : ρ.Nodup) (h1 : b1.length = b0.length) (hb : bxIn s.bx s.nb (rho ρ s.nb) 0 b0)
  (hK : ∀ bx' : Nat → List V, (∀ j, j ∉ ρ → bx' j = s.bx j) → (∀ (i j : Nat) (b : List V), ρ[i]? = some j → b1[i]? = some b → bx' j = b.map (V.ren (rho ρ s.nb))) → K ⟨s.fr, bx', s.nb⟩ (r.ren (rho ρ s.nb))) : vcallB P G s f args K := by
 unfold vcallB vcallE
 simp only [hc]
 refine ⟨ρ, cargs, b0, r, b1, hf, hall, ⟨hl, hnd⟩, hb, ?_⟩
 have hat : ∀ i, i < b1.length → ∃ j, ρ[i]? = some j ∧ rho ρ s.nb i = j := fun i hi => by
  have : i < ρ.length := by omega
  exact ⟨ρ[i], List.getElem?_eq_getElem this, by unfold rho; rw [if_pos this]; simp [this]⟩
 have hn : s.nb + (b1.length - b0.length) = s.nb := by omega
 rw [hn]
 refine hK _ (fun j hj => setBx_other b1 0 s.bx j fun i hi => ?_) fun i j b hi hb => ?_
 ·obtain ⟨k, h2, h3⟩ := hat i hi
  rw [Nat.zero_add, h3]
  rintro rfl
  exact hj (List.mem_of_getElem? h2)
 ·have hib := (List.getElem?_eq_some_iff.1 hb).1
  obtain ⟨k, h2, h3⟩ := hat i hib
  rw [hi] at h2; cases h2
  have := setBx_at (ρ := rho ρ s.nb) b1 0 s.bx i b hb (fun i i' hi hi' h => by
   obtain ⟨k, h4, h5⟩ := hat i hi
   obtain ⟨k', h6, h7⟩ := hat i' hi'
   rw [Nat.zero_add, Nat.zero_add, h5, h7] at h
   subst h
   obtain ⟨q1, q2⟩ := List.getElem?_eq_some_iff.1 h4
   obtain ⟨q3, q4⟩ := List.getElem?_eq_some_iff.1 h6
   exact (List.getElem_inj hnd).1 (q2.trans q4.symm))
  rw [Nat.zero_add, h3] at this
  exact this
theorem callB_sel1 {P : Program} {G : Gl} {s : S} {f : V} {args all cargs : List V} {g : FuncId} {K : S → V → Prop} {r : V} {b0 b1 : List (List V)} {c : List V} (ρ : List Nat) (hc : calleeV f args = some (g, all)) (hf : FnB P G g cargs b0 r (b1 ++ [c]))
  (hall : all.map V.fz = cargs.map (V.ren (rho ρ s.nb))) (hl : ρ.length = b0.length) (hnd : ρ.Nodup) (h1 : b1.length = b0.length) (hb : bxIn s.bx s.nb (rho ρ s.nb) 0 b0) (hlt : ∀ j ∈ ρ, j < s.nb)
  (hK : ∀ bx' : Nat → List V, (∀ j, j ∉ ρ → j ≠ s.nb → bx' j = s.bx j) → (∀ (i j : Nat) (b : List V), ρ[i]? = some j → b1[i]? = some b → bx' j = b.map (V.ren (rho ρ s.nb))) → bx' s.nb = c.map (V.ren (rho ρ s.nb)) → K ⟨s.fr, bx', s.nb + 1⟩ (r.ren (rho ρ s.nb))) : vcallB P G s f args K := by
 unfold vcallB vcallE
 simp only [hc]
 refine ⟨ρ, cargs, b0, r, b1 ++ [c], hf, hall, ⟨hl, hnd⟩, hb, ?_⟩
 have hat : ∀ i, i < b1.length → ∃ j, ρ[i]? = some j ∧ rho ρ s.nb i = j := fun i hi => by
  have : i < ρ.length := by omega
  exact ⟨ρ[i], List.getElem?_eq_getElem this, by unfold rho; rw [if_pos this]; simp [this]⟩
 have hlast : rho ρ s.nb b1.length = s.nb := by unfold rho; rw [if_neg (by omega), h1, ← hl]; omega
 have hinj : ∀ i i', i < (b1 ++ [c]).length → i' < (b1 ++ [c]).length → rho ρ s.nb (0 + i) = rho ρ s.nb (0 + i') → i = i' := fun i i' hi hi' h => by
  rw [Nat.zero_add, Nat.zero_add] at h
  rw [List.length_append, List.length_singleton] at hi hi'
  have hin : ∀ i, i < b1.length → rho ρ s.nb i < s.nb := fun i hi => by
   obtain ⟨k, h4, h5⟩ := hat i hi
   rw [h5]; exact hlt k (List.mem_of_getElem? h4)
  rcases Nat.lt_or_ge i b1.length with h2 | h2
  ·rcases Nat.lt_or_ge i' b1.length with h3 | h3
   ·obtain ⟨k, h4, h5⟩ := hat i h2
    obtain ⟨k', h6, h7⟩ := hat i' h3
    rw [h5, h7] at h
    subst h
    obtain ⟨q1, q2⟩ := List.getElem?_eq_some_iff.1 h4
    obtain ⟨q3, q4⟩ := List.getElem?_eq_some_iff.1 h6
    exact (List.getElem_inj hnd).1 (q2.trans q4.symm)
   ·have : i' = b1.length := by omega
    subst this
    rw [hlast] at h
    have := hin i h2; omega
  ·have : i = b1.length := by omega
   subst this
   rw [hlast] at h
   rcases Nat.lt_or_ge i' b1.length with h3 | h3
   ·have := hin i' h3; omega
   ·omega
 have hn : s.nb + ((b1 ++ [c]).length - b0.length) = s.nb + 1 := by rw [List.length_append, List.length_singleton]; omega
 rw [hn]
 refine hK _ (fun j hj hjn => setBx_other (b1 ++ [c]) 0 s.bx j fun i hi => ?_) (fun i j b hi hb => ?_) ?_
 ·rw [Nat.zero_add]
  rw [List.length_append, List.length_singleton] at hi
  rcases Nat.lt_or_ge i b1.length with h2 | h2
  ·obtain ⟨k, h4, h3⟩ := hat i h2
   rw [h3]
   rintro rfl
   exact hj (List.mem_of_getElem? h4)
  ·have : i = b1.length := by omega
   subst this
   rw [hlast]; exact fun e => hjn e.symm
 ·have hib := (List.getElem?_eq_some_iff.1 hb).1
  obtain ⟨k, h2, h3⟩ := hat i hib
  rw [hi] at h2; cases h2
  have := setBx_at (ρ := rho ρ s.nb) (b1 ++ [c]) 0 s.bx i b (by rw [List.getElem?_append_left hib]; exact hb) hinj
  rw [Nat.zero_add, h3] at this
  exact this
 ·have := setBx_at (ρ := rho ρ s.nb) (b1 ++ [c]) 0 s.bx b1.length c (by simp) hinj
  rw [Nat.zero_add, hlast] at this
  exact this
