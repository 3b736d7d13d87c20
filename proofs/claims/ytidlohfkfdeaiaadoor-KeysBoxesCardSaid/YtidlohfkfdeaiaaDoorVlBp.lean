/- What is put into a box comes out of it, and only that: the plain law. -/
import Derived.Test.YtidlohfkfdeaiaaDoorVlY3
import Derived.Test.YtidlohfkfdeaiaaDoorVlR2
set_option linter.unusedSimpArgs false
set_option linter.unusedVariables false
namespace Go.Proofs.YtidlohfkfdeaiaaDoor
open Go Go.Vl

theorem xorB_twice {key nonce text : B} {ctr : W} : xorB key ctr nonce (xorB key ctr nonce text) = text := by
  apply List.ext_getElem?
  intro i
  rcases Nat.lt_or_ge i text.length with h | h
  · obtain ⟨y, hy⟩ : ∃ y, (blockB key (ctrAt ctr (i / 64)) nonce)[i % 64]? = some y := ⟨_, List.getElem?_eq_getElem (by rw [blockB_len]; omega)⟩
    have h1 := xorB_at (key := key) (ctr := ctr) (nonce := nonce) (List.getElem?_eq_getElem h) hy
    rw [xorB_at h1 hy, List.getElem?_eq_getElem h, UInt8.xor_assoc, UInt8.xor_self, UInt8.xor_zero]
  · rw [List.getElem?_eq_none (by rw [xorB_len, xorB_len]; exact h), List.getElem?_eq_none h]
theorem openB_def (key ad blob : B) : openB key ad blob = if key.length ≠ 32 then ([], 1) else if blob.length < 28 then ([], 5) else
    if codeB (macB key lmac) 16 [ltag, blob.take 12, encB ad, (blob.take (blob.length - 16)).drop 12] ≠ blob.drop (blob.length - 16) then ([], 8) else
    if codeB (macB key lmac) 12 [lnon, encB ad, xorB (macB key lenc) 1 (blob.take 12) ((blob.take (blob.length - 16)).drop 12)] ≠ blob.take 12 then ([], 8) else
    (xorB (macB key lenc) 1 (blob.take 12) ((blob.take (blob.length - 16)).drop 12), 0) := rfl
theorem sealB_def {key ad text : B} (hk : key.length = 32) : sealB key ad text = (codeB (macB key lmac) 12 [lnon, encB ad, text] ++ xorB (macB key lenc) 1 (codeB (macB key lmac) 12 [lnon, encB ad, text]) text ++
    codeB (macB key lmac) 16 [ltag, codeB (macB key lmac) 12 [lnon, encB ad, text], encB ad, xorB (macB key lenc) 1 (codeB (macB key lmac) 12 [lnon, encB ad, text]) text], 0) := if_neg (by simpa using hk)
theorem open_seal {key ad text : B} (hk : key.length = 32) : openB key ad (sealB key ad text).1 = (text, 0) := by
  rw [openB_def, sealB_def hk, if_neg (by simpa using hk)]
  generalize macB key lmac = mac at *
  generalize macB key lenc = enc at *
  have h1 := codeB_len (mac := mac) (n := 12) (ps := [lnon, encB ad, text]) (by decide)
  generalize hno : codeB mac 12 [lnon, encB ad, text] = no at *
  have h2 := xorB_len (key := enc) (ctr := 1) (nonce := no) (text := text)
  have h3 := xorB_twice (key := enc) (ctr := 1) (nonce := no) (text := text)
  generalize xorB enc 1 no text = c at *
  have h4 := codeB_len (mac := mac) (n := 16) (ps := [ltag, no, encB ad, c]) (by decide)
  generalize htg : codeB mac 16 [ltag, no, encB ad, c] = tg at *
  simp only
  have hl : (no ++ c ++ tg).length = 12 + c.length + 16 := by simp only [List.length_append]; omega
  have e1 : (no ++ c ++ tg).take 12 = no := by rw [List.append_assoc]; exact List.take_left' h1
  have e2 : (no ++ c ++ tg).take (12 + c.length) = no ++ c := List.take_left' (by rw [List.length_append]; omega)
  have e3 : (no ++ c).drop 12 = c := List.drop_left' h1
  have e4 : (no ++ c ++ tg).drop (12 + c.length) = tg := List.drop_left' (by rw [List.length_append]; omega)
  rw [hl, Nat.add_sub_cancel, e1, e2, e3, e4, if_neg (by omega), htg, if_neg (by simp), h3, hno, if_neg (by simp)]
theorem seal_open {key ad blob v : B} (h : openB key ad blob = (v, 0)) : key.length = 32 ∧ sealB key ad v = (blob, 0) ∧ v.length + 28 = blob.length := by
  rw [openB_def] at h
  split at h
  · cases h
  rename_i hk
  have hk : key.length = 32 := by simpa using hk
  split at h
  · cases h
  rename_i hb
  split at h
  · cases h
  rename_i ht
  split at h
  · cases h
  rename_i hn
  have ht := Classical.not_not.1 ht
  have hn := Classical.not_not.1 hn
  have hv := (Prod.mk.inj h).1
  rw [hv] at hn
  refine ⟨hk, ?_, ?_⟩
  · rw [sealB_def hk, hn]
    have hx : xorB (macB key lenc) 1 (blob.take 12) v = (blob.take (blob.length - 16)).drop 12 := by rw [← hv]; exact xorB_twice
    rw [hx, ht]
    have e1 : blob.take 12 ++ (blob.take (blob.length - 16)).drop 12 = blob.take (blob.length - 16) := by
      have := List.take_append_drop 12 (blob.take (blob.length - 16))
      rwa [List.take_take, Nat.min_eq_left (by omega)] at this
    rw [e1, List.take_append_drop]
  · rw [← hv, xorB_len, List.length_drop, List.length_take]; omega
theorem cnt_enc {n : Nat} (hn : n ≤ 1000000000) {r : B} (hr : n ≤ r.length) : cnt (encI (n : Int) ++ r) 1 = ((n : Int), (encI (n : Int)).length, 0) := by
  have hg := getI_enc (I64_nat (n := n) (by omega)) r
  unfold cnt
  rw [hg]
  simp only
  rw [if_neg (by simp), if_neg (by omega), if_neg]
  rw [List.length_append, Nat.add_sub_cancel_left, Nat.div_one]; omega
theorem getB_enc {s r : B} (hs : s.length ≤ 1000000000) : getB (encB s ++ r) = (s, (encB s).length, 0) := by
  have e : encB s ++ r = encI (s.length : Int) ++ (s ++ r) := by unfold encB; rw [List.append_assoc]
  have hc := cnt_enc hs (r := s ++ r) (by rw [List.length_append]; omega)
  unfold getB
  rw [e, hc]
  simp only
  rw [if_neg (by simp), List.drop_left, Int.toNat_natCast, List.take_left]
  unfold encB; rw [List.length_append]
theorem getB_dec {b s : B} {u : Nat} (h : getB b = (s, u, 0)) : b = encB s ++ b.drop u ∧ s.length ≤ b.length := by
  obtain ⟨h1, h2⟩ := getB_ok h
  refine ⟨?_, h2⟩
  unfold getB at h
  generalize hg : cnt b 1 = g at h
  obtain ⟨n, v, e⟩ := g
  simp only at h
  split at h
  · rename_i he
    simp only [Prod.mk.injEq] at h
    exact absurd h.2.2 he
  · rename_i he
    have he : e = 0 := by simpa using he
    subst he
    obtain ⟨k, rfl, hk, hgi, _⟩ := cnt_ok hg
    obtain ⟨_, _, hb, _⟩ := enc_getI hgi
    simp only [Int.toNat_natCast, Prod.mk.injEq] at h
    obtain ⟨rfl, rfl, _⟩ := h
    have hsl : ((b.drop v).take k).length = k := by rw [List.length_take, List.length_drop]; omega
    unfold encB
    rw [hsl, ← hb, List.append_assoc]
    have : (b.drop v).take k ++ b.drop (v + k) = b.drop v := by rw [← List.drop_drop]; exact List.take_append_drop _ _
    rw [this, List.take_append_drop]
theorem rdI_enc : ∀ (l : List Int) (pre post : B) (acc : List Int), (∀ x ∈ l, I64 x) → rdI (pre ++ ((l.map encI).flatten ++ post)) l.length pre.length acc = (acc ++ l, pre.length + (l.map encI).flatten.length, 0)
  | [], pre, post, acc, _ => by simp [rdI]
  | x :: l, pre, post, acc, h => by
    have hg := getI_enc (h x (List.mem_cons_self ..)) ((l.map encI).flatten ++ post)
    have hd : (pre ++ (((x :: l).map encI).flatten ++ post)).drop pre.length = encI x ++ ((l.map encI).flatten ++ post) := by
      rw [List.drop_left, List.map_cons, List.flatten_cons, List.append_assoc]
    rw [List.length_cons]
    unfold rdI
    rw [hd, hg]
    simp only
    rw [if_neg (by simp)]
    have e : pre ++ (((x :: l).map encI).flatten ++ post) = (pre ++ encI x) ++ ((l.map encI).flatten ++ post) := by rw [List.map_cons, List.flatten_cons]; simp only [List.append_assoc]
    have ih := rdI_enc l (pre ++ encI x) post (acc ++ [x]) (fun y hy => h y (List.mem_cons_of_mem _ hy))
    rw [List.length_append] at ih
    rw [e, ih, List.map_cons, List.flatten_cons, List.length_append]
    simp only [Prod.mk.injEq, and_true]
    refine ⟨by simp, by omega⟩
theorem flat_ge : ∀ l : List Int, l.length ≤ (l.map encI).flatten.length
  | [] => Nat.le_refl _
  | x :: l => by
    have := flat_ge l
    have := (encI_len x).1
    simp only [List.map_cons, List.flatten_cons, List.length_append, List.length_cons]; omega
theorem getIs_enc {l : List Int} {r : B} (hl : l.length ≤ 1000000000) (h : ∀ x ∈ l, I64 x) : getIs (encIs l ++ r) = (l, (encIs l).length, 0) := by
  have e : encIs l ++ r = encI (l.length : Int) ++ ((l.map encI).flatten ++ r) := by unfold encIs; rw [List.append_assoc]
  have hc := cnt_enc hl (r := (l.map encI).flatten ++ r) (by have := flat_ge l; rw [List.length_append]; omega)
  unfold getIs
  rw [e, hc]
  simp only
  rw [if_neg (by simp), Int.toNat_natCast, rdI_enc l _ r [] h]
  simp [encIs]
theorem rdI_dec (b : B) : ∀ (n at_ : Nat) (acc l : List Int) (m : Nat), at_ ≤ b.length → rdI b n at_ acc = (l, m, 0) → ∃ l2 : List Int, l = acc ++ l2 ∧ l2.length = n ∧ at_ ≤ m ∧ m ≤ b.length ∧ (b.drop at_).take (m - at_) = (l2.map encI).flatten ∧ ∀ x ∈ l2, I64 x
  | 0, at_, acc, l, m, ha, h => by
    simp only [rdI, Prod.mk.injEq, and_true] at h
    obtain ⟨rfl, rfl⟩ := h
    exact ⟨[], by simp, rfl, Nat.le_refl _, ha, by simp, by simp⟩
  | n + 1, at_, acc, l, m, ha, h => by
    unfold rdI at h
    generalize hg : getI (b.drop at_) = g at h
    obtain ⟨x, w, e⟩ := g
    simp only at h
    split at h
    · rename_i he
      simp only [Prod.mk.injEq] at h
      exact absurd h.2.2 he
    rename_i he
    have he : e = 0 := by simpa using he
    subst he
    obtain ⟨hx, hw, ht, hwl⟩ := enc_getI hg
    rw [List.length_drop] at hwl
    obtain ⟨l2, h1, h2, h3, h4, h5, h6⟩ := rdI_dec b n (at_ + w) (acc ++ [x]) l m (by omega) h
    refine ⟨x :: l2, by rw [h1]; simp, by simp [h2], by omega, h4, ?_, fun y hy => ?_⟩
    · rw [List.map_cons, List.flatten_cons, ← h5, ← ht]
      have e : m - at_ = w + (m - (at_ + w)) := by omega
      rw [e, List.take_add, List.drop_drop]
    · rcases List.mem_cons.1 hy with rfl | hy
      · exact hx
      · exact h6 y hy
theorem getIs_dec {b : B} {l : List Int} {m : Nat} (h : getIs b = (l, m, 0)) : m ≤ b.length ∧ b.take m = encIs l ∧ ∀ x ∈ l, I64 x := by
  unfold getIs at h
  generalize hg : cnt b 1 = g at h
  obtain ⟨n, v, e⟩ := g
  simp only at h
  split at h
  · rename_i he
    simp only [Prod.mk.injEq] at h
    exact absurd h.2.2 he
  rename_i he
  have he : e = 0 := by simpa using he
  subst he
  obtain ⟨k, rfl, hk, hgi, _⟩ := cnt_ok hg
  obtain ⟨_, _, hb, hv⟩ := enc_getI hgi
  rw [Int.toNat_natCast] at h
  obtain ⟨l2, h1, h2, h3, h4, h5, h6⟩ := rdI_dec b k v [] l m hv h
  rw [List.nil_append] at h1
  subst h1
  refine ⟨h4, ?_, h6⟩
  unfold encIs
  rw [h2, ← hb, ← h5]
  have e : m = v + (m - v) := by omega
  conv => lhs; rw [e]
  rw [List.take_add]
theorem boxB_def (key : B) (k : Ky) : boxB key k = if validK k then (if (sealB key (headB k) k.val).2 = 0 then (encB (headB k) ++ (sealB key (headB k) k.val).1, 0) else ([], (sealB key (headB k) k.val).2)) else ([], 1) := rfl
theorem unboxB_def (key box : B) : unboxB key box = if (getB box).2.2 ≠ 0 then (k0, (getB box).2.2) else
  if (getIs (getB box).1).2.2 ≠ 0 then (k0, (getIs (getB box).1).2.2) else
  if (getIs (getB box).1).2.1 ≠ (getB box).1.length ∨ (getIs (getB box).1).1.length ≠ 5 then (k0, 6) else
  if (openB key (getB box).1 (box.drop (getB box).2.1)).2 ≠ 0 then (k0, (openB key (getB box).1 (box.drop (getB box).2.1)).2) else
  if validK (keyOf (getIs (getB box).1).1 (openB key (getB box).1 (box.drop (getB box).2.1)).1) then (keyOf (getIs (getB box).1).1 (openB key (getB box).1 (box.drop (getB box).2.1)).1, 0) else (k0, 6) := rfl
/-- What a box keeps of a key. -/
def wantK (k : Ky) : Ky := ⟨0, k.ty, k.val, k.uses, k.st, k.en, k.ver, 0, false⟩
theorem want_valid {k : Ky} (h : validK k = true) : validK (wantK k) = true := by
  unfold validK at h ⊢
  simp only [Bool.and_eq_true] at h ⊢
  exact ⟨h.1, rfl⟩
theorem unbox_box {key : B} {k : Ky} (hk : k.ok) (h : (boxB key k).2 = 0) : unboxB key (boxB key k).1 = (wantK k, 0) := by
  rw [boxB_def] at h ⊢
  split at h
  case isFalse => cases h
  rename_i hv
  split at h
  case isFalse hs => exact absurd h hs
  rename_i hs
  have hk32 : key.length = 32 := by
    rcases Decidable.em (key.length = 32) with h1 | h1
    · exact h1
    · have : sealB key (headB k) k.val = ([], 1) := if_pos h1
      rw [this] at hs; cases hs
  rw [if_pos hv, if_pos hs]
  have hl := headB_len k
  have hos := open_seal (key := key) (ad := headB k) (text := k.val) hk32
  have hgi := getIs_enc (l := [k.ty, k.uses, k.st, k.en, k.ver]) (r := []) (by simp) (by simp [hk.2.1, hk.2.2.1, hk.2.2.2.1, hk.2.2.2.2.1, hk.2.2.2.2.2.1])
  rw [List.append_nil] at hgi
  have hgi : getIs (headB k) = ([k.ty, k.uses, k.st, k.en, k.ver], (headB k).length, 0) := hgi
  generalize (sealB key (headB k) k.val).1 = s at *
  have hgb := getB_enc (s := headB k) (r := s) (by omega)
  simp only
  rw [unboxB_def, hgb]
  simp only
  rw [hgi]
  simp only
  rw [List.drop_left, hos]
  simp only
  rw [if_neg (by simp), if_neg (by simp), if_neg (by simp), if_neg (by simp)]
  exact if_pos (want_valid hv)
theorem box_unbox {key box : B} {k : Ky} (h : unboxB key box = (k, 0)) : boxB key k = (box, 0) ∧ k.ok := by
  rw [unboxB_def] at h
  generalize hg : getB box = g at h
  obtain ⟨hd, u, e⟩ := g
  simp only at h
  split at h
  · rename_i he; exact absurd (Prod.mk.inj h).2 he
  rename_i he
  have he : e = 0 := by simpa using he
  subst he
  generalize hg2 : getIs hd = g at h
  obtain ⟨l, m, e⟩ := g
  simp only at h
  split at h
  · rename_i he; exact absurd (Prod.mk.inj h).2 he
  rename_i he
  have he : e = 0 := by simpa using he
  subst he
  split at h
  · cases h
  rename_i hml
  have hm : m = hd.length := Classical.not_not.1 fun q => hml (Or.inl q)
  have hl : l.length = 5 := Classical.not_not.1 fun q => hml (Or.inr q)
  generalize hg3 : openB key hd (box.drop u) = g at h
  obtain ⟨v, e⟩ := g
  simp only at h
  split at h
  · rename_i he; exact absurd (Prod.mk.inj h).2 he
  rename_i he
  have he : e = 0 := by simpa using he
  subst he
  split at h
  case isFalse => cases h
  rename_i hv
  obtain rfl := (Prod.mk.inj h).1
  obtain ⟨hk32, hso, _⟩ := seal_open hg3
  obtain ⟨hbx, _⟩ := getB_dec hg
  obtain ⟨_, hbt, hI⟩ := getIs_dec hg2
  rw [hm, List.take_length] at hbt
  match l, hl with
  | [a0, a1, a2, a3, a4], _ =>
  have hko : keyOf [a0, a1, a2, a3, a4] v = ⟨0, a0, v, a1, a2, a3, a4, 0, false⟩ := rfl
  rw [hko] at hv ⊢
  have hh : headB ⟨0, a0, v, a1, a2, a3, a4, 0, false⟩ = hd := hbt.symm
  refine ⟨?_, (show I64 0 by unfold I64; decide), hI a0 (by simp), hI a1 (by simp), hI a2 (by simp), hI a3 (by simp), hI a4 (by simp), (show I64 0 by unfold I64; decide)⟩
  rw [boxB_def, if_pos hv, hh]
  simp only
  rw [hso, if_pos rfl, ← hbx]
end Go.Proofs.YtidlohfkfdeaiaaDoor
