/- strings.Join with an empty separator, by the shelf's contract. -/
import Derived.Test.YtidlohfkfdeaiaaDoorVlW5
import Derived.Test.YtidlohfkfdeaiaaDoorShelf
import Derived.Test.YtidlohfkfdeaiaaDoorVlC6
set_option linter.unusedSimpArgs false
set_option linter.unusedVariables false
namespace Go.Proofs.YtidlohfkfdeaiaaDoor
open Go Go.Vl

variable {G : Gl}
theorem join_flat : ∀ xs : List B, Lib.join xs [] = xs.flatten
  | [] => rfl
  | x :: r => by
    rw [Lib.join_cons]
    unfold Lib.joinTail
    simp
theorem Join_ok (parts : List B) (hp : parts.length ≤ 140737488355328) (hl : parts.flatten.length ≤ 140737488355328) : FnOK Tryd.prog G 96 [.c (.sl (mC sc parts)), sv []] (sv parts.flatten) := by
  refine ⟨⟨_, Tryd.func96, rfl, _, rfl⟩, fun I w vs hI hg hsz ha => ?_⟩
  have ha0 := ha 0 _ rfl
  have ha1 := ha 1 _ rfl
  have hvs : vs = #[vs.getD 0 undef, vs.getD 1 undef] := by
    apply Array.ext
    · simpa using hsz
    · intro i h1 h2
      have : i < 2 := by simpa using h2
      match i with
      | 0 => simp [Array.getD, h1]
      | 1 => simp [Array.getD, h1]
  rw [hvs]
  clear hvs
  generalize vs.getD 0 undef = v0 at ha0 ⊢
  generalize vs.getD 1 undef = v1 at ha1 ⊢
  clear ha hsz
  cases ha0 with
  | c _ _ h0 =>
  cases ha1 with
  | c _ _ h1 =>
  obtain ⟨rfl, _⟩ := h1.lit_inv
  rcases h0.sl_inv with ⟨⟨a, cap, rfl, _⟩, he⟩ | ⟨b, off, cap, sz, f, rfl, hc, hs, hcell, hcr⟩
  · have hpn : parts = [] := by
      cases parts with
      | nil => rfl
      | cons x r => cases he
    subst hpn
    refine (Tryd.strings_Join_none a cap (bs8 []) w).mono ?_
    rintro e w' ⟨rfl, rfl⟩
    exact ⟨_, I, rfl, World.grownBy.refl _ _, fun _ _ h => h, fun _ _ h => .inl h, none, .ofLit rfl, fun b hb => by cases hb⟩
  · have hlen : (mC sc parts).length = (parts.map bs8).length := by rw [mC_len, List.length_map]
    have hone : ∀ (j : Nat) (x : ByteArray), (parts.map bs8)[j]? = some x → w.cell? ⟨b, off + j, none⟩ = some (.string x) ∧ I b (off + j) := fun j x hx => by
      rw [List.getElem?_map] at hx
      obtain ⟨y, hy, rfl⟩ := Option.map_eq_some_iff.1 hx
      have hj : j < (mC sc parts).length := by rw [mC_len]; exact (List.getElem?_eq_some_iff.1 hy).1
      have hg : (mC sc parts)[j]? = some [sc y] := by unfold mC; rw [List.getElem?_map, hy]; rfl
      have hsz1 : sz = 1 := (hs _ (List.mem_of_getElem? hg)).symm
      subst hsz1
      obtain ⟨h2, h3⟩ := hcell j 0 hj (by decide)
      obtain ⟨h4, _⟩ := (hcr j 0 _ _ hg rfl).lit_inv
      rw [h4] at h2
      simp only [Nat.mul_one, Nat.add_zero] at h2 h3
      exact ⟨h2, h3⟩
    rw [hlen] at hc ⊢
    cases hpp : parts with
    | nil =>
      subst hpp
      refine (Tryd.strings_Join_none (some ⟨b, off, none⟩) cap (bs8 []) w).mono ?_
      rintro e w' ⟨rfl, rfl⟩
      exact ⟨_, I, rfl, World.grownBy.refl _ _, fun _ _ h => h, fun _ _ h => .inl h, none, .ofLit rfl, fun b hb => by cases hb⟩
    | cons p0 r0 =>
    rw [← hpp]
    have hb : b < w.heap.size := hI b _ (hone 0 _ (by rw [hpp]; rfl)).2
    have hm : (parts.map bs8).map (fun x => x.data.toList) = parts := by
      rw [List.map_map]; conv => rhs; rw [← List.map_id parts]
      exact List.map_congr_left fun x _ => by simp [bs8]
    have hj : Lib.join ((parts.map bs8).map (fun x => x.data.toList)) (bs8 []).data.toList = parts.flatten := by rw [hm]; exact join_flat parts
    refine (Tryd.strings_Join b off cap (parts.map bs8) (bs8 []) w (fun j x hx => (hone j x hx).1) hb (by rw [List.length_map]; exact hp) hc (by rw [hj]; exact hl)).mono ?_
    rintro e w' ⟨rfl, hbel⟩
    rw [hj]
    refine ⟨_, I, rfl, ⟨hbel.os, hbel.tape, hbel.output, hbel.size, fun k hk _ => hbel.block k hk⟩, fun _ _ h => h, fun _ _ h => .inl h, none, .ofLit rfl, fun b hb => by cases hb⟩
end Go.Proofs.YtidlohfkfdeaiaaDoor

/- Layer 4: keys of a seal, and codes. -/
namespace Go.Proofs.YtidlohfkfdeaiaaDoor
open Go Go.Vl

theorem bs8_inj {a b : B} : (bs8 a = bs8 b) = (a = b) := by
  apply propext
  refine ⟨fun h => ?_, fun h => by rw [h]⟩
  unfold bs8 at h
  simpa using h
theorem bs8_app (a b : B) : bs8 a ++ bs8 b = bs8 (a ++ b) := by
  apply ByteArray.ext
  simp [bs8]
theorem s_add {a b : B} {K : V → Prop} (h : a.length + b.length ≤ 9223372036854775807) (hK : K (sv (a ++ b))) : vstr .add (bs8 a) (bs8 b) K := by
  refine ⟨by rw [bs8_size, bs8_size]; exact h, ?_⟩
  rw [bs8_app]; exact hK
theorem macB_len {k t : B} : (macB k t).length = 32 := by
  unfold macB
  exact sumS_len (addB_ok (addB_ok begin_ok _) _)
def lenc : B := [101, 110, 99]
def lmac : B := [109, 97, 99]
def ltag : B := [116, 97, 103]
def lnon : B := [110, 111, 110, 99, 101]
def codeB (mac : B) (n : Nat) (parts : List B) : B := (macB mac parts.flatten).take n
set_option maxRecDepth 100000 in
theorem Keys_ok (key : B) (hk : key.length = 32) : FnOK Tryd.prog gl 76 [sv key] (.tup [sv (macB key lenc), sv (macB key lmac), i64 0]) := by
  refine FnOK_by (rs := [.tmp 2, .tmp 3, .tmp 4]) false [] mixed Tryd.func76 rfl rfl rfl rfl (by kernel_rfl) (by simp) rfl rfl ?_
  have d1 : (!decide (((32 : Nat) : Int) = 32)) = false := by decide
  simp -implicitDefEqProofs only [pkA, ptA, ↓reduceIte, Nat.reduceEqDiff, Nat.reduceAdd, Nat.zero_add, bs8_size, hk, d1]
  refine call_fn («as» := [sv key, sv lenc]) rfl (Mac_ok key lenc (by omega) (by decide)) (fun _ => rfl) ?_
  simp -implicitDefEqProofs only [pkA, ↓reduceIte, Nat.reduceEqDiff, Nat.reduceAdd]
  refine call_fn («as» := [sv key, sv lmac]) rfl (Mac_ok key lmac (by omega) (by decide)) (fun _ => rfl) ?_
  simp -implicitDefEqProofs only [pkA, ↓reduceIte, Nat.reduceEqDiff]
  refine retV_three ?_ ?_ ?_ <;> simp -implicitDefEqProofs only [pkA, ↓reduceIte, Nat.reduceEqDiff]
set_option maxRecDepth 100000 in
theorem Keys_bad (key : B) (hk : key.length ≠ 32) (hb : key.length ≤ 1000000000) : FnOK Tryd.prog gl 76 [sv key] (.tup [sv [], sv [], i64 1]) := by
  refine FnOK_by (rs := [.tmp 2, .tmp 3, .tmp 4]) false [] mixed Tryd.func76 rfl rfl rfl rfl (by kernel_rfl) (by simp) rfl rfl ?_
  have d1 : (!decide (((key.length : Nat) : Int) = 32)) = true := by
    have : ¬ ((key.length : Nat) : Int) = 32 := by omega
    simp [this]
  simp -implicitDefEqProofs only [pkA, ptA, ↓reduceIte, Nat.reduceEqDiff, Nat.reduceAdd, Nat.zero_add, bs8_size, d1]
  refine retV_three ?_ ?_ ?_ <;> simp -implicitDefEqProofs only [pkA, ↓reduceIte, Nat.reduceEqDiff] <;> rfl
set_option maxRecDepth 100000 in
theorem code_ok (mac : B) (n : Nat) (parts : List B) (hm : mac.length ≤ 1000000000) (hp : parts.length ≤ 100) (hl : parts.flatten.length ≤ 1000000000) (hn : n ≤ 32) : FnOK Tryd.prog gl 77 [sv mac, i64 (n : Int), .c (.sl (mC sc parts))] (sv (codeB mac n parts)) := by
  refine FnOK_by (rs := [.tmp 6]) false [] mixed Tryd.func77 rfl rfl rfl rfl (by kernel_rfl) (by simp) rfl rfl ?_
  simp -implicitDefEqProofs only [pkA, ↓reduceIte, Nat.reduceEqDiff, Nat.reduceAdd, Nat.zero_add]
  refine call_fn («as» := [.c (.sl (mC sc parts)), sv []]) rfl (Join_ok parts (by omega) (by omega)) (fun _ => rfl) ?_
  simp -implicitDefEqProofs only [pkA, ↓reduceIte, Nat.reduceEqDiff, Nat.reduceAdd]
  refine call_fn rfl (Mac_ok mac _ hm hl) (fun _ => rfl) ?_
  have hl := macB_len (k := mac) (t := parts.flatten)
  have hu : codeB mac n parts = (macB mac parts.flatten).take n := rfl
  rw [hu]
  generalize macB mac parts.flatten = o at *
  simp -implicitDefEqProofs only [pkA, ↓reduceIte, Nat.reduceEqDiff]
  refine sl_sv ti_9 rfl (a := 0) (b := n) rfl rfl (Nat.zero_le _) (by omega) ?_
  rw [List.drop_zero]
  simp -implicitDefEqProofs only [pkA, ↓reduceIte]
end Go.Proofs.YtidlohfkfdeaiaaDoor

/- Layer 4: a text is sealed, and opened. -/
namespace Go.Proofs.YtidlohfkfdeaiaaDoor
open Go Go.Vl

/-- For texts of at most a million bytes. -/
def sealB (key ad text : B) : B × Int :=
  if key.length ≠ 32 then ([], 1) else
  (codeB (macB key lmac) 12 [lnon, encB ad, text] ++ xorB (macB key lenc) 1 (codeB (macB key lmac) 12 [lnon, encB ad, text]) text ++
    codeB (macB key lmac) 16 [ltag, codeB (macB key lmac) 12 [lnon, encB ad, text], encB ad, xorB (macB key lenc) 1 (codeB (macB key lmac) 12 [lnon, encB ad, text]) text], 0)
theorem codeB_len {mac : B} {n : Nat} {ps : List B} (h : n ≤ 32) : (codeB mac n ps).length = n := by
  unfold codeB; rw [List.length_take, macB_len]; omega
theorem enc_len (x : B) (h : x.length ≤ 1000000000) : (encB x).length ≤ x.length + 9 := by
  have h1 := encI_len (x.length : Int)
  unfold encB; rw [List.length_append]; omega
set_option maxRecDepth 100000 in
set_option maxHeartbeats 1500000 in
theorem Seal_ok (key ad text : B) (hk : key.length ≤ 1000000) (ha : ad.length ≤ 1000000) (ht : text.length ≤ 1000000) : FnOK Tryd.prog gl 46 [sv key, sv ad, sv text] (.tup [sv (sealB key ad text).1, i64 (sealB key ad text).2]) := by
  refine FnOK_by (rs := [.tmp 6, .tmp 7]) false [] mixed Tryd.func46 rfl rfl rfl rfl (by kernel_rfl) (by simp) rfl rfl ?_
  unfold sealB
  by_cases hk32 : key.length = 32
  case neg =>
    rw [if_pos hk32]
    simp -implicitDefEqProofs only [pkA, ↓reduceIte, Nat.reduceEqDiff, Nat.reduceAdd, Nat.zero_add]
    refine call_fn rfl (Keys_bad key hk32 (by omega)) (fun _ => rfl) ?_
    have d1 : (!decide ((1 : Int) = 0)) = true := by decide
    simp -implicitDefEqProofs only [pkA, ↓reduceIte, Nat.reduceEqDiff, Nat.reduceAdd, d1]
    refine retV_two ?_ ?_ <;> rfl
  rw [if_neg (by simpa using hk32)]
  simp -implicitDefEqProofs only [pkA, ↓reduceIte, Nat.reduceEqDiff, Nat.reduceAdd, Nat.zero_add]
  refine call_fn rfl (Keys_ok key hk32) (fun _ => rfl) ?_
  have d0 : (!decide ((0 : Int) = 0)) = false := by decide
  have d1 : decide ((1048576 : Int) < (ad.length : Nat)) = false := decide_eq_false (by omega)
  have d2 : decide ((1048576 : Int) < (text.length : Nat)) = false := decide_eq_false (by omega)
  simp -implicitDefEqProofs only [pkA, ptA, ↓reduceIte, Nat.reduceEqDiff, Nat.reduceAdd, decide_true, d1, d2, bs8_size]
  have hm1 := macB_len (k := key) (t := lenc)
  have hm2 := macB_len (k := key) (t := lmac)
  generalize macB key lenc = enc at *
  generalize macB key lmac = mac at *
  have hctx := enc_len ad (by omega)
  refine call_fn rfl (Bytes_ok ad (by omega)) (fun h => by cases h) ?_
  generalize encB ad = ctx at *
  simp -implicitDefEqProofs only [pkA, ptA, ↓reduceIte, Nat.reduceEqDiff, Nat.reduceAdd, Nat.reduceMul, Nat.reduceLT, Nat.reduceLeDiff, Nat.zero_add, c_bs]
  refine call_fn («as» := [sv mac, i64 ((12 : Nat) : Int), .c (.sl (mC sc [lnon, ctx, text]))]) rfl (code_ok mac 12 [lnon, ctx, text] (by omega) (by simp) (by simp [lnon]; omega) (by decide)) (fun _ => rfl) ?_
  have hnl := codeB_len (mac := mac) (n := 12) (ps := [lnon, ctx, text]) (by decide)
  generalize codeB mac 12 [lnon, ctx, text] = nonce at *
  simp -implicitDefEqProofs only [pkA, ↓reduceIte, Nat.reduceEqDiff, Nat.reduceAdd]
  refine call_fn («as» := [sv enc, wv 1, sv nonce, sv text]) rfl (Xor_ok enc nonce text 1 hm1 hnl (by omega)) (fun _ => rfl) ?_
  have hxl := xorB_len (key := enc) (ctr := 1) (nonce := nonce) (text := text)
  generalize xorB enc 1 nonce text = c at *
  simp -implicitDefEqProofs only [pkA, ↓reduceIte, Nat.reduceEqDiff, Nat.reduceAdd]
  refine s_add (by omega) ?_
  simp -implicitDefEqProofs only [pkA, ptA, ↓reduceIte, Nat.reduceEqDiff, Nat.reduceAdd, Nat.reduceMul, Nat.reduceLT, Nat.reduceLeDiff, Nat.zero_add]
  refine call_fn («as» := [sv mac, i64 ((16 : Nat) : Int), .c (.sl (mC sc [ltag, nonce, ctx, c]))]) rfl (code_ok mac 16 [ltag, nonce, ctx, c] (by omega) (by simp) (by simp [ltag]; omega) (by decide)) (fun _ => rfl) ?_
  have htl := codeB_len (mac := mac) (n := 16) (ps := [ltag, nonce, ctx, c]) (by decide)
  generalize codeB mac 16 [ltag, nonce, ctx, c] = tag at *
  simp -implicitDefEqProofs only [pkA, ↓reduceIte, Nat.reduceEqDiff]
  refine s_add (by rw [List.length_append]; omega) ?_
  simp -implicitDefEqProofs only [pkA, ↓reduceIte]
  refine retV_two ?_ ?_ <;> rfl
end Go.Proofs.YtidlohfkfdeaiaaDoor

/- Layer 4: a seal is opened. -/
namespace Go.Proofs.YtidlohfkfdeaiaaDoor
open Go Go.Vl

/-- For texts of at most a million bytes. -/
def openB (key ad blob : B) : B × Int :=
  if key.length ≠ 32 then ([], 1) else if blob.length < 28 then ([], 5) else
  if codeB (macB key lmac) 16 [ltag, blob.take 12, encB ad, (blob.take (blob.length - 16)).drop 12] ≠ blob.drop (blob.length - 16) then ([], 8) else
  if codeB (macB key lmac) 12 [lnon, encB ad, xorB (macB key lenc) 1 (blob.take 12) ((blob.take (blob.length - 16)).drop 12)] ≠ blob.take 12 then ([], 8) else
  (xorB (macB key lenc) 1 (blob.take 12) ((blob.take (blob.length - 16)).drop 12), 0)
set_option maxRecDepth 100000 in
set_option maxHeartbeats 1500000 in
theorem Open_ok (key ad blob : B) (hk : key.length ≤ 1000000) (ha : ad.length ≤ 1000000) (ht : blob.length ≤ 1000000) : FnOK Tryd.prog gl 56 [sv key, sv ad, sv blob] (.tup [sv (openB key ad blob).1, i64 (openB key ad blob).2]) := by
  refine FnOK_by (rs := [.tmp 6, .tmp 7]) false [] mixed Tryd.func56 rfl rfl rfl rfl (by kernel_rfl) (by simp) rfl rfl ?_
  unfold openB
  by_cases hk32 : key.length = 32
  case neg =>
    rw [if_pos hk32]
    simp -implicitDefEqProofs only [pkA, ↓reduceIte, Nat.reduceEqDiff, Nat.reduceAdd, Nat.zero_add]
    refine call_fn rfl (Keys_bad key hk32 (by omega)) (fun _ => rfl) ?_
    have d1 : (!decide ((1 : Int) = 0)) = true := by decide
    simp -implicitDefEqProofs only [pkA, ↓reduceIte, Nat.reduceEqDiff, Nat.reduceAdd, d1]
    refine retV_two ?_ ?_ <;> rfl
  rw [if_neg (by simpa using hk32)]
  simp -implicitDefEqProofs only [pkA, ↓reduceIte, Nat.reduceEqDiff, Nat.reduceAdd, Nat.zero_add]
  refine call_fn rfl (Keys_ok key hk32) (fun _ => rfl) ?_
  have d0 : (!decide ((0 : Int) = 0)) = false := by decide
  have d1 : decide ((1048576 : Int) < (ad.length : Nat)) = false := decide_eq_false (by omega)
  have d2 : decide ((1048604 : Int) < (blob.length : Nat)) = false := decide_eq_false (by omega)
  simp -implicitDefEqProofs only [pkA, ptA, ↓reduceIte, Nat.reduceEqDiff, Nat.reduceAdd, decide_true, d1, d2, bs8_size]
  have hm1 := macB_len (k := key) (t := lenc)
  have hm2 := macB_len (k := key) (t := lmac)
  generalize macB key lenc = enc at *
  generalize macB key lmac = mac at *
  by_cases hs : blob.length < 28
  case pos =>
    have d3 : decide ((blob.length : Nat) < (28 : Int)) = true := decide_eq_true (by omega)
    rw [if_pos hs]
    simp -implicitDefEqProofs only [pkA, ↓reduceIte, Nat.reduceAdd, d3]
    refine retV_two ?_ ?_ <;> rfl
  have d3 : decide ((blob.length : Nat) < (28 : Int)) = false := decide_eq_false (by omega)
  rw [if_neg hs]
  have hctx := enc_len ad (by omega)
  simp -implicitDefEqProofs only [pkA, ↓reduceIte, Nat.reduceEqDiff, Nat.reduceAdd, d3]
  refine call_fn rfl (Bytes_ok ad (by omega)) (fun h => by cases h) ?_
  generalize encB ad = ctx at *
  have hwi := wrap_of (n := (blob.length : Int) - 16) (k := blob.length - 16) (by omega) (by omega)
  simp -implicitDefEqProofs only [pkA, ptA, ↓reduceIte, Nat.reduceEqDiff, Nat.reduceAdd, c_bs, bs8_size, hwi]
  refine sl_sv ti_9 rfl (a := 0) (b := 12) rfl rfl (Nat.zero_le _) (by omega) ?_
  rw [List.drop_zero]
  simp -implicitDefEqProofs only [pkA, ↓reduceIte, Nat.reduceEqDiff]
  refine sl_sv ti_9 rfl (a := 12) (b := blob.length - 16) rfl rfl (by omega) (by omega) ?_
  have hn12 : (blob.take 12).length = 12 := by rw [List.length_take]; omega
  have hcl : ((blob.take (blob.length - 16)).drop 12).length ≤ 1000000 := by rw [List.length_drop, List.length_take]; omega
  generalize blob.take 12 = nonce at *
  generalize (blob.take (blob.length - 16)).drop 12 = c at *
  simp -implicitDefEqProofs only [pkA, ptA, ↓reduceIte, Nat.reduceEqDiff, Nat.reduceAdd, Nat.reduceMul, Nat.reduceLT, Nat.reduceLeDiff, Nat.zero_add]
  refine call_fn («as» := [sv mac, i64 ((16 : Nat) : Int), .c (.sl (mC sc [ltag, nonce, ctx, c]))]) rfl (code_ok mac 16 [ltag, nonce, ctx, c] (by omega) (by simp) (by simp [ltag]; omega) (by decide)) (fun _ => rfl) ?_
  generalize codeB mac 16 [ltag, nonce, ctx, c] = tag at *
  simp -implicitDefEqProofs only [pkA, ↓reduceIte, Nat.reduceEqDiff]
  refine sl_sv ti_9 rfl (a := blob.length - 16) (b := blob.length) rfl rfl (by omega) (Nat.le_refl _) ?_
  rw [List.take_length]
  generalize blob.drop (blob.length - 16) = tg at *
  simp -implicitDefEqProofs only [pkA, ↓reduceIte, Nat.reduceEqDiff, bs8_inj]
  refine vcond_of (fun h => ?_) (fun h => ?_)
  · have h : tag ≠ tg := by simpa using h
    rw [if_pos h]
    simp -implicitDefEqProofs only [pkA, ↓reduceIte, Nat.reduceAdd]
    refine retV_two ?_ ?_ <;> rfl
  have h : tag = tg := by simpa using h
  rw [if_neg (by simpa using h)]
  simp -implicitDefEqProofs only [pkA, ↓reduceIte, Nat.reduceEqDiff, Nat.reduceAdd]
  refine call_fn («as» := [sv enc, wv 1, sv nonce, sv c]) rfl (Xor_ok enc nonce c 1 hm1 hn12 (by omega)) (fun _ => rfl) ?_
  have hxl := xorB_len (key := enc) (ctr := 1) (nonce := nonce) (text := c)
  generalize xorB enc 1 nonce c = x at *
  simp -implicitDefEqProofs only [pkA, ptA, ↓reduceIte, Nat.reduceEqDiff, Nat.reduceAdd, Nat.reduceMul, Nat.reduceLT, Nat.reduceLeDiff, Nat.zero_add]
  refine call_fn («as» := [sv mac, i64 ((12 : Nat) : Int), .c (.sl (mC sc [lnon, ctx, x]))]) rfl (code_ok mac 12 [lnon, ctx, x] (by omega) (by simp) (by simp [lnon]; omega) (by decide)) (fun _ => rfl) ?_
  generalize codeB mac 12 [lnon, ctx, x] = no at *
  simp -implicitDefEqProofs only [pkA, ↓reduceIte, Nat.reduceEqDiff, bs8_inj]
  refine vcond_of (fun h => ?_) (fun h => ?_)
  · have h : no ≠ nonce := by simpa using h
    rw [if_pos h]
    simp -implicitDefEqProofs only [pkA, ↓reduceIte, Nat.reduceAdd]
    refine retV_two ?_ ?_ <;> rfl
  have h : no = nonce := by simpa using h
  rw [if_neg (by simpa using h)]
  simp -implicitDefEqProofs only [pkA, ↓reduceIte, Nat.reduceEqDiff, Nat.reduceAdd]
  refine retV_two ?_ ?_ <;> rfl
end Go.Proofs.YtidlohfkfdeaiaaDoor
