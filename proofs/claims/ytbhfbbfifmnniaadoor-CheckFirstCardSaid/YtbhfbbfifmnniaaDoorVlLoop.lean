/- Values without memory: loops by an invariant, and the laws of the operations on memory. -/
import Derived.Test.YtbhfbbfifmnniaaDoorVlRun
set_option linter.unusedSimpArgs false
set_option linter.unusedVariables false
namespace Go.Vl
open Go Go.RowKit

section
variable {P : Program} {G : Gl} {tr : List Nat} {fr : Nat → V} {bx : Nat → List V} {nb : Nat} {K : S → Prop} {KV : V → Prop} {Q : VE → S → Prop}

/-- Some slots, written out. -/
def frs : List (Nat × V) → Nat → V
  | [] => fun _ => .un
  | (i, v) :: r => up (frs r) i v
theorem frs_nil : frs [] = fun _ => .un := rfl
theorem frs_cons {i : Nat} {v : V} {r : List (Nat × V)} : frs ((i, v) :: r) = up (frs r) i v := rfl

def FL : List (Nat × V) → (Nat → V) → Prop
  | [], _ => True
  | (i, v) :: r, f => f i = v ∧ FL r f
theorem FL_nil {f : Nat → V} : FL [] f = True := rfl
theorem FL_cons {i : Nat} {v : V} {r : List (Nat × V)} {f : Nat → V} : FL ((i, v) :: r) f = (f i = v ∧ FL r f) := rfl

theorem FL.le : ∀ {l : List (Nat × V)} {f : Nat → V}, FL l f → FrLe (frs l) f
  | [], _, _ => fun _ => .inl rfl
  | (i, v) :: r, f, h => fun t => by
    by_cases ht : t = i
    · subst ht; right; simp only [frs, up_same]; exact h.1.symm
    · simp only [frs, up_ne _ _ ht]; exact h.2.le t

/-- The boxes, written out. -/
def bxs (bl : List (List V)) : Nat → List V := fun i => bl.getD i []
def BL : Nat → List (List V) → (Nat → List V) → Prop
  | _, [], _ => True
  | i, b :: r, f => f i = b ∧ BL (i + 1) r f
theorem BL_nil {i : Nat} {f : Nat → List V} : BL i [] f = True := rfl
theorem BL_cons {i : Nat} {b : List V} {r : List (List V)} {f : Nat → List V} : BL i (b :: r) f = (f i = b ∧ BL (i + 1) r f) := rfl
theorem BL.get : ∀ {bl : List (List V)} {k : Nat} {f : Nat → List V}, BL k bl f → ∀ i, i < bl.length → bl.getD i [] = f (k + i)
  | [], _, _, _, i, hi => by simp at hi
  | b :: r, k, f, h, i, hi => by
    cases i with
    | zero => simp [h.1]
    | succ i =>
      have := h.2.get i (by simpa using hi)
      simpa [Nat.add_assoc, Nat.add_comm, Nat.add_left_comm] using this

def V.ltPB (m : Nat) : V → Bool
  | .bp i _ => decide (i < m)
  | .ms i _ _ _ _ => decide (i < m)
  | _ => true
theorem V.ltPB_ok {m : Nat} {v : V} (h : v.ltPB m = true) : v.ltP m := by
  cases v <;> simp only [V.ltP] <;> simpa [V.ltPB] using h
def V.ltB (m : Nat) : V → Bool
  | .bp i _ => decide (i < m)
  | .ms i _ _ _ _ => decide (i < m)
  | .clo _ fs cs => fs.all (V.ltPB m) && cs.all (V.ltPB m)
  | .mag vs => vs.all (V.ltPB m)
  | _ => true
theorem V.ltB_ok {m : Nat} {v : V} (h : v.ltB m = true) : v.lt m := by
  cases v <;> simp only [V.lt] <;> simp only [V.ltB] at h
  · simpa using h
  · simp only [Bool.and_eq_true, List.all_eq_true] at h
    exact ⟨fun x hx => V.ltPB_ok (h.1 x hx), fun x hx => V.ltPB_ok (h.2 x hx)⟩
  · simpa using h
  · simp only [List.all_eq_true] at h
    exact fun x hx => V.ltPB_ok (h x hx)

def leOk (l : List (Nat × V)) (bl : List (List V)) : Bool := l.all (fun p => p.2.ltB bl.length) && bl.all fun b => b.all fun x => x.ltB bl.length

theorem frs_lt {m : Nat} : ∀ {l : List (Nat × V)}, (∀ p ∈ l, p.2.lt m) → ∀ t, (frs l t).lt m
  | [], _, _ => trivial
  | (i, v) :: r, h, t => by
    by_cases ht : t = i
    · subst ht; simp only [frs, up_same]; exact h _ (List.mem_cons_self ..)
    · simp only [frs, up_ne _ _ ht]; exact frs_lt (fun p hp => h p (List.mem_cons_of_mem _ hp)) t

/-- The head of a loop: some slots and boxes are known. -/
def hdS (l : List (Nat × V)) (bl : List (List V)) : S := ⟨frs l, bxs bl, bl.length⟩

theorem le_hd {l : List (Nat × V)} {bl : List (List V)} {k : Nat} (hok : leOk l bl = true) (hk : k ≤ bl.length) (hn : bl.length ≤ nb) (h1 : FL l fr) (h2 : BL 0 bl bx) : S.Le k (hdS l bl) ⟨fr, bx, nb⟩ := by
  simp only [leOk, Bool.and_eq_true, List.all_eq_true] at hok
  refine ⟨hk, h1.le, hn, fun i hi => ?_, fun t => frs_lt (fun p hp => V.ltB_ok (hok.1 p hp)) t, fun i hi x hx => ?_⟩
  · have := h2.get i hi; simpa [hdS, bxs] using this
  · simp only [hdS] at hi hx
    have : bxs bl i ∈ bl := by
      simp only [bxs, List.getD, List.getElem?_eq_getElem hi, Option.getD_some]; exact List.getElem_mem hi
    exact V.ltB_ok (hok.2 _ this x hx)

theorem vrounds_by {k : Nat} {α : Type} {hd : α → S} {m : α → Nat} {Inv : α → Prop} {body : (VE → S → Prop) → S → Prop}
    (hb : ∀ x, Inv x → ∀ R : VE → S → Prop, (∀ y s', Inv y → m y < m x → S.Le k (hd y) s' → R .normal s') → (∀ i s', Q (.exit i) s' → R (.exit i) s') → (∀ s', Q .ret s' → R .ret s') → body R (hd x)) :
    ∀ n x s, Inv x → m x < n → S.Le k (hd x) s → vrounds k body Q n s
  | 0, _, _, _, h, _ => absurd h (Nat.not_lt_zero _)
  | n + 1, x, s, hx, hm, hle => ⟨hd x, .inr hle, hb x hx _ (fun y s' hy hlt hle' => vrounds_by hb n y s' hy (by omega) hle') (fun _ _ h => h) (fun _ h => h)⟩

/-- A loop: what its head says, what grows less, what holds. -/
theorem run_loop {α : Type} (hd : α → S) (m : α → Nat) (Inv : α → Prop) {body : Code} (x : α) (hx : Inv x) (hle : S.Le (extK tr) (hd x) ⟨fr, bx, nb⟩)
    (hb : ∀ x, Inv x → ∀ R : VE → S → Prop, (∀ y s', Inv y → m y < m x → S.Le (extK tr) (hd y) s' → R .normal s') → (∀ i s', Q (.exit i) s' → R (.exit i) s') → (∀ s', Q .ret s' → R .ret s') → vwp P G tr body R (hd x)) :
    vwp P G tr (.loop body) Q ⟨fr, bx, nb⟩ :=
  ⟨m x + 1, vrounds_by hb _ x _ hx (Nat.lt_succ_self _) hle⟩

theorem vun_not {b : Bool} : vun .not (.c (.lit (.bool b))) KV = KV (.c (.lit (.bool (!b)))) := rfl

/-! Operations on memory. -/
theorem vlen_sl {T e : TypeId} {i : TI} {es : List (List C)} (hT : ti P T = some i) (hk : i.kd = .slice e) : vlen P T (.c (.sl es)) KV = KV (.c (.lit (.int .i64 es.length))) := by
  obtain ⟨kd, a, b, c, d, f, g⟩ := i; subst hk; simp only [vlen, hT]
theorem vlen_ow {T e : TypeId} {i : TI} {E : Option (TypeId × Nat)} {es : List (List C)} (hT : ti P T = some i) (hk : i.kd = .slice e) : vlen P T (.ow E es) KV = KV (.c (.lit (.int .i64 es.length))) := by
  obtain ⟨kd, a, b, c, d, f, g⟩ := i; subst hk; simp only [vlen, hT]
theorem vlen_ms {T e : TypeId} {i : TI} {b o l c z : Nat} (hT : ti P T = some i) (hk : i.kd = .slice e) : vlen P T (.ms b o l c z) KV = KV (.c (.lit (.int .i64 l))) := by
  obtain ⟨kd, a, b, c, d, f, g⟩ := i; subst hk; simp only [vlen, hT]
theorem vlen_str {T : TypeId} {i : TI} {b : ByteArray} (hT : ti P T = some i) (hk : i.kd = .str) : vlen P T (.c (.lit (.string b))) KV = KV (.c (.lit (.int .i64 b.size))) := by
  obtain ⟨kd, a, b, c, d, f, g⟩ := i; subst hk; simp only [vlen, hT]
theorem vlen_arr {T e : TypeId} {i : TI} {n : Nat} {x : V} (hT : ti P T = some i) (hk : i.kd = .arr n e) : vlen P T x KV = KV (.c (.lit (.int .i64 n))) := by
  obtain ⟨kd, a, b, c, d, f, g⟩ := i; subst hk; simp only [vlen, hT]
theorem vbuiltin_len {t : TypeId} {x : V} : vbuiltin P .len [t] [x] KV = vlen P t x KV := rfl
theorem vbuiltin_append {t : TypeId} {x y : V} : vbuiltin P .append [t, t] [x, y] KV = vappend P t x y.fz KV := by simp [vbuiltin]

theorem ia_of {T e : TypeId} {i j : TI} {k : IntKind} {n : Int} {c : List C} {es : List (List C)} (hT : ti P T = some i) (hk : i.kd = .slice e) (hj : ti P e = some j) (hs : j.size ≠ 0) (hn : 0 ≤ n)
    (he : es[n.toNat]? = some c) (hc : c.length = j.size) (hK : KV (.c (.rp c 0))) : vindexAddr P T (.c (.sl es)) (.c (.lit (.int k n))) KV := by
  obtain ⟨kd, a, b, x, d, f, g⟩ := i
  simp only at hk; subst hk
  simp only [vindexAddr, hT, hj, he]
  exact ⟨⟨hn, hs⟩, hc, hK⟩
theorem ia_ms {T e : TypeId} {i j : TI} {k : IntKind} {n : Int} {b o l c z : Nat} (hT : ti P T = some i) (hk : i.kd = .slice e) (hj : ti P e = some j) (hs : j.size = z) (hz : z ≠ 0) (hn : 0 ≤ n) (hl : n < l)
    (hK : KV (.bp b (o + n.toNat * z))) : vindexAddr P T (.ms b o l c z) (.c (.lit (.int k n))) KV := by
  obtain ⟨kd, a, b, x, d, f, g⟩ := i
  simp only at hk; subst hk
  simp only [vindexAddr, hT, hj]
  exact ⟨⟨hn, hl, hs, hz⟩, hK⟩
theorem ia_arr {T e : TypeId} {i j : TI} {k : IntKind} {n : Int} {m o : Nat} {cs : List C} (hT : ti P T = some i) (hk : i.kd = .arr m e) (hj : ti P e = some j) (hn : 0 ≤ n) (hm : n < m)
    (hK : KV (.c (.rp cs (o + n.toNat * j.size)))) : vindexAddr P T (.c (.rp cs o)) (.c (.lit (.int k n))) KV := by
  obtain ⟨kd, a, b, x, d, f, g⟩ := i
  simp only at hk; subst hk
  simp only [vindexAddr, hT, hj]
  exact ⟨⟨hn, hm⟩, hK⟩
theorem ia_box {T e : TypeId} {i j : TI} {k : IntKind} {n : Int} {m o q : Nat} (hT : ti P T = some i) (hk : i.kd = .arr m e) (hj : ti P e = some j) (hn : 0 ≤ n) (hm : n < m)
    (hK : KV (.bp q (o + n.toNat * j.size))) : vindexAddr P T (.bp q o) (.c (.lit (.int k n))) KV := by
  obtain ⟨kd, a, b, x, d, f, g⟩ := i
  simp only at hk; subst hk
  simp only [vindexAddr, hT, hj]
  exact ⟨⟨hn, hm⟩, hK⟩

theorem partV_one {ag : Bool} {sz off : Nat} {cs : List C} {c : C} (ha : ag = false) (h : cs[off]? = some c) : partV ag sz off cs KV = KV (.c c) := by
  subst ha; simp [partV, h]
theorem partV_all {ag : Bool} {sz : Nat} {cs : List C} (ha : ag = true) (h : cs.length = sz) : partV ag sz 0 cs KV = KV (.agg cs) := by
  subst ha; subst h; simp [partV]
theorem partV_part {ag : Bool} {sz off : Nat} {cs : List C} (ha : ag = true) (h : off + sz ≤ cs.length) : partV ag sz off cs KV = KV (.agg ((cs.drop off).take sz)) := by
  subst ha; simp [partV, h]

/-- Reading a struct or array through a pointer to it alone. -/
theorem ld_all {T : TypeId} {i : TI} {s : S} {cs : List C} (hT : ti P T = some i) (ha : i.agg = true) (h : cs.length = i.size) : vload P T s (.c (.rp cs 0)) KV = KV (.agg cs) := by
  simp only [vload, hT]; exact partV_all ha h
theorem ld_one {T : TypeId} {i : TI} {s : S} {cs : List C} {k : Nat} {c : C} (hT : ti P T = some i) (ha : i.agg = false) (h : cs[k]? = some c) : vload P T s (.c (.rp cs k)) KV = KV (.c c) := by
  simp only [vload, hT]; exact partV_one ha h
theorem ld_part {T : TypeId} {i : TI} {s : S} {cs : List C} {k : Nat} (hT : ti P T = some i) (ha : i.agg = true) (h : k + i.size ≤ cs.length) : vload P T s (.c (.rp cs k)) KV = KV (.agg ((cs.drop k).take i.size)) := by
  simp only [vload, hT]; exact partV_part ha h
theorem ld_box {T : TypeId} {i : TI} {b k : Nat} {v : V} (hT : ti P T = some i) (ha : i.agg = false) (hb : b < nb) (h : (bx b)[k]? = some v) : vload P T ⟨fr, bx, nb⟩ (.bp b k) KV = KV v.fz := by
  simp only [vload, hT, ha]
  simp only [hb, h, true_and, Bool.false_eq_true, if_false]
theorem fa_rp {T : TypeId} {i : TI} {f k off sz : Nat} {ag : Bool} {cs : List C} (hT : ti P T = some i) (hf : i.flds[f]? = some (off, sz, ag)) (hs : sz ≠ 0) : vfieldAddr P T (.c (.rp cs k)) f KV = KV (.c (.rp cs (k + off))) := by
  simp only [vfieldAddr, hT, hf]; simp [hs]
theorem fa_bp {T : TypeId} {i : TI} {f k off sz b : Nat} {ag : Bool} (hT : ti P T = some i) (hf : i.flds[f]? = some (off, sz, ag)) (hs : sz ≠ 0) : vfieldAddr P T (.bp b k) f KV = KV (.bp b (k + off)) := by
  simp only [vfieldAddr, hT, hf]; simp [hs]
theorem fd_of {T : TypeId} {i : TI} {f off sz : Nat} {ag : Bool} {cs : List C} (hT : ti P T = some i) (hf : i.flds[f]? = some (off, sz, ag)) : vfield P T (.agg cs) f KV = partV ag sz off cs KV := by
  simp only [vfield, hT, hf]

theorem ld_cell {T : TypeId} {i : TI} {s : S} {cs : List C} {o : Nat} (hT : ti P T = some i) (ha : i.agg = false) (hs : i.size = 1) : vload P T s (.c (.rp cs o)) KV = partV false 1 o cs KV := by
  simp only [vload, hT, ha, hs]
theorem partV_z {sz : Nat} {c : C} {cs : List C} : partV false sz 0 (c :: cs) KV = KV (.c c) := rfl
theorem partV_s {sz n : Nat} {c : C} {cs : List C} : partV false sz (n + 1) (c :: cs) KV = partV false sz n cs KV := by simp [partV]
def ldA (nb b : Nat) (l : List V) (o n : Nat) (K : V → Prop) : Prop := b < nb ∧ ((((l.drop o).take n).length = n ∧ ((l.drop o).take n).all V.isPO = true) ∧ K (aggV (((l.drop o).take n).map V.fz)))
def consA (a : C) : V → V
  | .agg cs => .agg (a :: cs)
  | .mag vs => .mag (.c a :: vs)
  | x => x
theorem aggV_nil : aggV [] = .agg [] := rfl
theorem aggV_c {a : C} {r : List V} : aggV (.c a :: r) = consA a (aggV r) := by
  unfold aggV
  simp only [List.mapM_cons]
  cases h : r.mapM V.asC <;> simp [V.asC, consA]
theorem aggV_ms {i o l c z : Nat} {r : List V} : aggV (.ms i o l c z :: r) = .mag (.ms i o l c z :: r) := by
  unfold aggV; simp [List.mapM_cons, V.asC]
theorem aggV_bp {i o : Nat} {r : List V} : aggV (.bp i o :: r) = .mag (.bp i o :: r) := by
  unfold aggV; simp [List.mapM_cons, V.asC]
theorem consA_agg {a : C} {cs : List C} : consA a (.agg cs) = .agg (a :: cs) := rfl
theorem consA_mag {a : C} {vs : List V} : consA a (.mag vs) = .mag (.c a :: vs) := rfl
theorem ldA_cons {b o n : Nat} {v : V} {l : List V} : ldA nb b (v :: l) o n KV = (b < nb ∧ (((((v :: l).drop o).take n).length = n ∧ (((v :: l).drop o).take n).all V.isPO = true) ∧ KV (aggV ((((v :: l).drop o).take n).map V.fz)))) := rfl
theorem isPO_c {x : C} : (V.c x).isPO = true := rfl
theorem isPO_ow {E : Option (TypeId × Nat)} {es : List (List C)} : (V.ow E es).isPO = true := rfl
theorem isPO_bp {i o : Nat} : (V.bp i o).isPO = true := rfl
theorem isPO_ms {i o l c z : Nat} : (V.ms i o l c z).isPO = true := rfl
def ldB (nb b : Nat) (l : List V) (o : Nat) (K : V → Prop) : Prop := b < nb ∧ match l[o]? with
  | some v => K v.fz
  | none => False
theorem ldA_of {T : TypeId} {i : TI} {b o n : Nat} (hT : ti P T = some i) (ha : i.agg = true) (hs : i.size = n) : vload P T ⟨fr, bx, nb⟩ (.bp b o) KV = ldA nb b (bx b) o n KV := by
  subst hs; simp only [vload, hT, ha, if_true, ldA]
theorem ldB_of {T : TypeId} {i : TI} {b o : Nat} (hT : ti P T = some i) (ha : i.agg = false) : vload P T ⟨fr, bx, nb⟩ (.bp b o) KV = ldB nb b (bx b) o KV := by
  simp only [vload, hT, ha, ldB]; rfl
theorem ldB_z {b : Nat} {v : V} {l : List V} : ldB nb b (v :: l) 0 KV = (b < nb ∧ KV v.fz) := rfl
theorem ldB_s {b o : Nat} {v : V} {l : List V} : ldB nb b (v :: l) (o + 1) KV = ldB nb b l o KV := by simp [ldB]
theorem ldB_map {b o : Nat} {cs : List C} : ldB nb b (cs.map V.c) o KV = (b < nb ∧ partV false 1 o cs KV) := by
  simp only [ldB, partV, List.getElem?_map, Bool.false_eq_true, if_false]
  cases cs[o]? <;> rfl
theorem vaggK_eql {i : TI} {ks : List EK} {xs ys : List C} {r : Bool} (he : i.eqs = some ks) (ha : i.agg = true) (h : eqCs ks xs ys = some r) (h1 : xs.length = ks.length) (h2 : ys.length = ks.length) : vaggK (some i) .eql xs ys KV = KV (.c (.lit (.bool r))) := by
  obtain ⟨kd, a, b, c, d, f, g⟩ := i
  simp only at he ha; subst he; subst ha
  simp [vaggK, h, h1, h2]
theorem vaggK_neq {i : TI} {ks : List EK} {xs ys : List C} {r : Bool} (he : i.eqs = some ks) (ha : i.agg = true) (h : eqCs ks xs ys = some r) (h1 : xs.length = ks.length) (h2 : ys.length = ks.length) : vaggK (some i) .neq xs ys KV = KV (.c (.lit (.bool (!r)))) := by
  obtain ⟨kd, a, b, c, d, f, g⟩ := i
  simp only at he ha; subst he; subst ha
  simp [vaggK, h, h1, h2]
theorem vbin_eql {T : TypeId} {i : TI} {ks : List EK} {xs ys : List C} {r : Bool} (hT : ti P T = some i) (he : i.eqs = some ks) (ha : i.agg = true) (h : eqCs ks xs ys = some r) (h1 : xs.length = ks.length) (h2 : ys.length = ks.length) :
    vbin P .eql T (.agg xs) (.agg ys) KV = KV (.c (.lit (.bool r))) := by rw [vbin_agg, hT]; exact vaggK_eql he ha h h1 h2
theorem vbin_neq {T : TypeId} {i : TI} {ks : List EK} {xs ys : List C} {r : Bool} (hT : ti P T = some i) (he : i.eqs = some ks) (ha : i.agg = true) (h : eqCs ks xs ys = some r) (h1 : xs.length = ks.length) (h2 : ys.length = ks.length) :
    vbin P .neq T (.agg xs) (.agg ys) KV = KV (.c (.lit (.bool (!r)))) := by rw [vbin_agg, hT]; exact vaggK_neq he ha h h1 h2
theorem vbool_eql {T : TypeId} {i : TI} {a b : Bool} (hT : ti P T = some i) (hk : i.kd = .bool) : vbin P .eql T (.c (.lit (.bool a))) (.c (.lit (.bool b))) KV = KV (.c (.lit (.bool (a == b)))) := by
  obtain ⟨kd, a, b, c, d, f, g⟩ := i
  simp only at hk; subst hk
  rw [vbin_bool, hT]; rfl
theorem vbool_neq {T : TypeId} {i : TI} {a b : Bool} (hT : ti P T = some i) (hk : i.kd = .bool) : vbin P .neq T (.c (.lit (.bool a))) (.c (.lit (.bool b))) KV = KV (.c (.lit (.bool (!(a == b))))) := by
  obtain ⟨kd, a, b, c, d, f, g⟩ := i
  simp only at hk; subst hk
  rw [vbin_bool, hT]; rfl
theorem vstr_eql {a b : ByteArray} : vstr .eql a b KV = KV (.c (.lit (.bool (decide (a = b))))) := rfl
theorem vstr_neq {a b : ByteArray} : vstr .neq a b KV = KV (.c (.lit (.bool (!decide (a = b))))) := rfl
theorem vindex_str {T : TypeId} {i : TI} {k : IntKind} {n : Int} {st : ByteArray} {b : UInt8} (hT : ti P T = some i) (hk : i.kd = .str) (hn : 0 ≤ n) (hb : st.data[n.toNat]? = some b) :
    vindex P T (.c (.lit (.string st))) (.c (.lit (.int k n))) KV = KV (.c (.lit (.int .u8 b.toNat))) := by
  obtain ⟨kd, a, b, c, d, f, g⟩ := i
  simp only at hk; subst hk
  simp only [vindex, hT, hn, hb, true_and]
theorem aggV_map : ∀ cs : List C, aggV (cs.map V.c) = .agg cs
  | [] => rfl
  | c :: cs => by rw [List.map_cons, aggV_c, aggV_map cs]; rfl
theorem ldA_box {b n : Nat} {cs : List C} (h : cs.length = n) : ldA nb b (cs.map V.c) 0 n KV = (b < nb ∧ KV (.agg cs)) := by
  have h1 : (cs.map V.c).take n = cs.map V.c := List.take_of_length_le (by simp [h])
  have h2 : (cs.map V.c).map V.fz = cs.map V.c := by simp [List.map_map, Function.comp_def, V.fz]
  have h3 : (cs.map V.c).all V.isPO = true := by simp [List.all_map, Function.comp_def, V.isPO]
  simp only [ldA, List.drop_zero, h1, h2, h3, aggV_map, List.length_map, h, true_and]

theorem boxK_c {t : Option Tmp} {d : Nat} {x : C} (h : ∀ u, t = some u → (fr u).isOw = false) : boxK t d (.c x) ⟨fr, bx, nb⟩ K = K ⟨up fr d (.bp nb 0), up bx nb [.c x], nb + 1⟩ := by
  cases t with
  | none => rfl
  | some u => simp [boxK, V.bcells, use_some, h u rfl, S.put]
theorem box_c {t : Tmp} {d : Nat} {x : C} (h : fr t = .c x) : boxK (some t) d (.c x) ⟨fr, bx, nb⟩ K = K ⟨up fr d (.bp nb 0), up bx nb [.c x], nb + 1⟩ := boxK_c (fun u hu => by cases hu; rw [h]; rfl)
theorem box_none {d : Nat} {x : C} : boxK none d (.c x) ⟨fr, bx, nb⟩ K = K ⟨up fr d (.bp nb 0), up bx nb [.c x], nb + 1⟩ := rfl
theorem box_noneo {d : Nat} {E : Option (TypeId × Nat)} {es : List (List C)} : boxK none d (.ow E es) ⟨fr, bx, nb⟩ K = K ⟨up fr d (.bp nb 0), up bx nb [.ow E es], nb + 1⟩ := rfl
theorem box_agg {t : Tmp} {d : Nat} {cs : List C} (h : fr t = .agg cs) : boxK (some t) d (.agg cs) ⟨fr, bx, nb⟩ K = K ⟨up fr d (.bp nb 0), up bx nb (cs.map .c), nb + 1⟩ := by
  simp [boxK, V.bcells, use_some, h, S.put, V.isOw]
theorem box_ow {t : Tmp} {d : Nat} {E : Option (TypeId × Nat)} {es : List (List C)} (h : fr t = .ow E es) : boxK (some t) d (.ow E es) ⟨fr, bx, nb⟩ K = K ⟨up (up fr t .un) d (.bp nb 0), up bx nb [.ow E es], nb + 1⟩ := by
  simp [boxK, V.bcells, use_some, h, S.put, V.isOw]
theorem box_bp {t : Tmp} {d : Nat} {i o : Nat} (h : fr t = .bp i o) : boxK (some t) d (.bp i o) ⟨fr, bx, nb⟩ K = K ⟨up fr d (.bp nb 0), up bx nb [.bp i o], nb + 1⟩ := by
  simp [boxK, V.bcells, use_some, h, S.put, V.isOw]
theorem box_ms {t : Tmp} {d : Nat} {i o l c z : Nat} (h : fr t = .ms i o l c z) : boxK (some t) d (.ms i o l c z) ⟨fr, bx, nb⟩ K = K ⟨up fr d (.bp nb 0), up bx nb [.ms i o l c z], nb + 1⟩ := by
  simp [boxK, V.bcells, use_some, h, S.put, V.isOw]
theorem box_mag {t : Tmp} {d : Nat} {vs : List V} (h : fr t = .mag vs) : boxK (some t) d (.mag vs) ⟨fr, bx, nb⟩ K = K ⟨up fr d (.bp nb 0), up bx nb vs, nb + 1⟩ := by
  simp [boxK, V.bcells, use_some, h, S.put, V.isOw]
theorem box_clo {t : Tmp} {d : Nat} {f : Fn} {x y : List V} (h : fr t = .clo f x y) : boxK (some t) d (.clo f x y) ⟨fr, bx, nb⟩ K = K ⟨up fr d (.bp nb 0), up bx nb [.clo f x y], nb + 1⟩ := by
  simp [boxK, V.bcells, use_some, h, S.put, V.isOw]

/-- A store of one value into a box. -/
def stS (n : Nat) (t : Option Tmp) (dO : Option Tmp) (b o : Nat) (v : V) (s : S) (K : S → Prop) : Prop := match v.bcells with
  | some cs => (b < s.nb ∧ cs.length = n ∧ o + n ≤ (s.bx b).length) ∧ K ((let s' := s.use t; { s' with bx := up s'.bx b (setV (s'.bx b) o cs) } : S).put dO .sk)
  | none => False
theorem stS_of {i : TI} {n : Nat} {t dO : Option Tmp} {b o : Nat} {v : V} {s : S} (h : i.size = n) : stoK (some i) t dO (.bp b o) v s K = stS n t dO b o v s K := by
  subst h; cases hv : v.bcells <;> simp only [stoK, stS, hv]
theorem stS_none {dO : Option Tmp} {b o : Nat} {x : C} : stS 1 none dO b o (.c x) ⟨fr, bx, nb⟩ K = ((b < nb ∧ o + 1 ≤ (bx b).length) ∧ K ((⟨fr, up bx b (setV (bx b) o [.c x]), nb⟩ : S).put dO .sk)) := by
  simp [stS, V.bcells, use_none]
theorem stS_c {t : Tmp} {dO : Option Tmp} {b o : Nat} {x : C} (h : fr t = .c x) : stS 1 (some t) dO b o (.c x) ⟨fr, bx, nb⟩ K = ((b < nb ∧ o + 1 ≤ (bx b).length) ∧ K ((⟨fr, up bx b (setV (bx b) o [.c x]), nb⟩ : S).put dO .sk)) := by
  simp [stS, V.bcells, use_some, h, V.isOw]
theorem stS_ow {t : Tmp} {dO : Option Tmp} {b o : Nat} {E : Option (TypeId × Nat)} {es : List (List C)} (h : fr t = .ow E es) : stS 1 (some t) dO b o (.ow E es) ⟨fr, bx, nb⟩ K =
    ((b < nb ∧ o + 1 ≤ (bx b).length) ∧ K ((⟨up fr t .un, up bx b (setV (bx b) o [.ow E es]), nb⟩ : S).put dO .sk)) := by
  simp [stS, V.bcells, use_some, h, V.isOw]
theorem stS_agg {n : Nat} {t : Tmp} {dO : Option Tmp} {b o : Nat} {cs : List C} (h : fr t = .agg cs) : stS n (some t) dO b o (.agg cs) ⟨fr, bx, nb⟩ K =
    ((b < nb ∧ cs.length = n ∧ o + n ≤ (bx b).length) ∧ K ((⟨fr, up bx b (setV (bx b) o (cs.map .c)), nb⟩ : S).put dO .sk)) := by
  simp [stS, V.bcells, use_some, h, V.isOw]
theorem stS_bp {t : Tmp} {dO : Option Tmp} {b o i k : Nat} (h : fr t = .bp i k) : stS 1 (some t) dO b o (.bp i k) ⟨fr, bx, nb⟩ K = ((b < nb ∧ o + 1 ≤ (bx b).length) ∧ K ((⟨fr, up bx b (setV (bx b) o [.bp i k]), nb⟩ : S).put dO .sk)) := by
  simp [stS, V.bcells, use_some, h, V.isOw]
theorem stS_clo {t : Tmp} {dO : Option Tmp} {b o : Nat} {f : Fn} {x y : List V} (h : fr t = .clo f x y) : stS 1 (some t) dO b o (.clo f x y) ⟨fr, bx, nb⟩ K = ((b < nb ∧ o + 1 ≤ (bx b).length) ∧ K ((⟨fr, up bx b (setV (bx b) o [.clo f x y]), nb⟩ : S).put dO .sk)) := by
  simp [stS, V.bcells, use_some, h, V.isOw]
theorem stS_ms {t : Tmp} {dO : Option Tmp} {b o i k l c z : Nat} (h : fr t = .ms i k l c z) : stS 1 (some t) dO b o (.ms i k l c z) ⟨fr, bx, nb⟩ K = ((b < nb ∧ o + 1 ≤ (bx b).length) ∧ K ((⟨fr, up bx b (setV (bx b) o [.ms i k l c z]), nb⟩ : S).put dO .sk)) := by
  simp [stS, V.bcells, use_some, h, V.isOw]
theorem stS_mag {n : Nat} {t : Tmp} {dO : Option Tmp} {b o : Nat} {vs : List V} (h : fr t = .mag vs) : stS n (some t) dO b o (.mag vs) ⟨fr, bx, nb⟩ K =
    ((b < nb ∧ vs.length = n ∧ o + n ≤ (bx b).length) ∧ K ((⟨fr, up bx b (setV (bx b) o vs), nb⟩ : S).put dO .sk)) := by
  simp [stS, V.bcells, use_some, h, V.isOw]
theorem setV_z {v x : V} {r : List V} : setV (v :: r) 0 [x] = x :: r := by simp [setV]
theorem setV_s {v x : V} {r : List V} {k : Nat} : setV (v :: r) (k + 1) [x] = v :: setV r k [x] := by simp [setV, Nat.add_right_comm]

/-- The place of the first element that passes, or -1. -/
def posOf {α : Type} (p : α → Bool) (l : List α) : Int := match l.findIdx? p with
  | some i => i
  | none => -1
theorem posOf_at {α : Type} {p : α → Bool} {l : List α} {i : Nat} (hi : i < l.length) (hy : p l[i] = true) (hno : ∀ j (h : j < l.length), j < i → p l[j] = false) : posOf p l = i := by
  have : l.findIdx? p = some i := by
    rw [List.findIdx?_eq_some_iff_getElem]
    exact ⟨hi, hy, fun j hj => by simp [hno j (by omega) hj]⟩
  simp [posOf, this]
theorem posOf_none {α : Type} {p : α → Bool} {l : List α} (hno : ∀ j (h : j < l.length), j < l.length → p l[j] = false) : posOf p l = -1 := by
  have : l.findIdx? p = none := by
    rw [List.findIdx?_eq_none_iff]
    intro x hx
    obtain ⟨j, hj, rfl⟩ := List.mem_iff_getElem.1 hx
    exact hno j hj hj
  simp [posOf, this]
theorem posOf_nonneg {α : Type} {p : α → Bool} {l : List α} : decide (0 ≤ posOf p l) = l.any p := by
  unfold posOf
  cases h : l.findIdx? p with
  | some i =>
    obtain ⟨hi, hy, _⟩ := List.findIdx?_eq_some_iff_getElem.1 h
    have : l.any p = true := List.any_eq_true.2 ⟨_, List.getElem_mem hi, hy⟩
    simp [this]
  | none =>
    have h2 := List.findIdx?_eq_none_iff.1 h
    have : l.any p = false := List.any_eq_false.2 fun x hx => by simp [h2 x hx]
    simp [this]
theorem wrap_i64 (n : Int) (h : -9223372036854775808 ≤ n ∧ n ≤ 9223372036854775807) : IntKind.i64.wrap n = n := by rw [IntKind.wrap_i64]; omega

/-! Calls under a contract. -/
def callK (s : S) (as : Option (List V)) (bxy : Bool) (g : FuncId) (P : Program) (G : Gl) (fs cs : List C) (K : V → Prop) : Prop := match as with
  | some as => ∃ r, FnOK P G g (fs.map .c ++ as ++ cs.map .c) r ∧ (bxy = true → r.isFlat = true) ∧ K r
  | none => False
theorem call_fn {s : S} {g : FuncId} {fs cs : List C} {args as : List V} {r : V} (hm : args.mapM (imm s) = some as) (h : FnOK P G g (fs.map .c ++ as ++ cs.map .c) r) (hb : args.any V.boxy = true → r.isFlat = true) (hK : KV r) :
    vcall P G s (.c (.fn (.func g) fs cs)) args KV := by
  simp only [vcall, hm]
  exact ⟨r, h, hb, hK⟩
theorem call_clo {s : S} {g : FuncId} {fs cs fs' cs' args as : List V} {r : V} (hm : args.mapM (imm s) = some as) (hf : fs.mapM (imm s) = some fs') (hc : cs.mapM (imm s) = some cs') (h : FnOK P G g (fs' ++ as ++ cs') r)
    (hb : (fs ++ args ++ cs).any V.boxy = true → r.isFlat = true) (hK : KV r) :
    vcall P G s (.clo (.func g) fs cs) args KV := by
  simp only [vcall, hm, hf, hc]
  exact ⟨r, h, hb, hK⟩
end
end Go.Vl
