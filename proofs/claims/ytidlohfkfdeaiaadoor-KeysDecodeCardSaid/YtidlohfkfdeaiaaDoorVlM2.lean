/- Layer 2: the hash and the code of a text. -/
import Derived.Test.YtidlohfkfdeaiaaDoorVlW5
set_option linter.unusedSimpArgs false
set_option linter.unusedVariables false
namespace Go.Proofs.YtidlohfkfdeaiaaDoor
open Go Go.Vl

theorem shaS_n {m : B} (h : m.length ≤ 1000000000) : (addB begin0 m).n ≤ 4611686018427387904 := by
  rw [addB_n begin_ok]; show (0 + m.length) % 18446744073709551616 ≤ _; omega
abbrev av (l : B) : V := .agg (l.map bc)
theorem flat_av (l : B) : (av l).isFlat = true := flat_bb l
theorem vw_bytes {l : B} {fr : Nat → V} {bx : Nat → List V} {nb b o m c : Nat} (hb : b < nb) (hx : bx b = cl bc l) (hm : o + m ≤ l.length) : (vw ⟨fr, bx, nb⟩ (.ms b o m c 1)).fz = bv ((l.drop o).take m) := by
  show (match viewC ⟨fr, bx, nb⟩ b o m 1 with | some c => V.c c | none => V.un).fz = _
  rw [view_bytes hb hx o m hm]; rfl
theorem vw_all {l : B} {fr : Nat → V} {bx : Nat → List V} {nb b m c : Nat} (hb : b < nb) (hx : bx b = cl bc l) (hm : l.length = m) : (vw ⟨fr, bx, nb⟩ (.ms b 0 m c 1)).fz = bv l := by
  rw [vw_bytes hb hx (by omega), List.drop_zero, List.take_of_length_le (by omega)]
set_option maxRecDepth 100000 in
set_option maxHeartbeats 1500000 in
theorem HSum_ok (b : B) (hb : b.length ≤ 1000000000) : FnOK Tryd.prog gl 106 [bv b] (av (shaS b)) := by
  refine FnOK_by (rs := [.cell 2 109]) false [] mixed Tryd.func106 rfl rfl rfl rfl (by kernel_rfl) (by simp) rfl rfl ?_
  have hl : (sumS (addB begin0 b)).length = 32 := sumS_len (addB_ok begin_ok b)
  simp -implicitDefEqProofs only [pkA, ptA, ↓reduceIte, Nat.reduceAdd, Nat.zero_add]
  refine call_fn rfl Begin_ok (fun _ => flat_st _) ?_
  simp -implicitDefEqProofs only [pkA, ↓reduceIte, Nat.reduceEqDiff, Nat.reduceAdd, c_bs]
  refine call_fn rfl (Add_ok begin0 b begin_ok (by omega)) (fun _ => flat_st _) ?_
  simp -implicitDefEqProofs only [pkA, ↓reduceIte, Nat.reduceAdd]
  refine call_fn rfl (Sum_ok _ (addB_ok begin_ok b) (shaS_n hb)) (fun _ => flat_av _) ?_
  simp -implicitDefEqProofs only [pkA, ptA, ↓reduceIte, Nat.reduceEqDiff, Nat.reduceAdd, Nat.reduceMul, Nat.reduceLT, Nat.reduceLeDiff, Nat.zero_add, decide_true, isMb_zbox, zbox_len]
  rw [setV_zb hl]
  exact ⟨by rw [List.length_map, hl], isMb_cl, ldA_cl (by decide) hl rfl⟩

/-- The first places new, the others old. -/
def half {α : Type} (A L : List α) (i : Nat) : List α := A.take i ++ L.drop i
theorem half_len {α : Type} {A L : List α} {i : Nat} (h : A.length = L.length) (hi : i ≤ L.length) : (half A L i).length = L.length := by unfold half; simp; omega
theorem half_at {α : Type} {A L : List α} {i : Nat} (h : A.length = L.length) (hi : i < L.length) : (half A L i)[i]? = L[i]? := by
  unfold half; rw [List.getElem?_append_right (by rw [List.length_take]; omega), List.length_take, List.getElem?_drop]; congr 1; omega
theorem half_set {α : Type} {A L : List α} {i : Nat} {x : α} (h : A.length = L.length) (hx : A[i]? = some x) : (half A L i).set i x = half A L (i + 1) := by
  have hl := (List.getElem?_eq_some_iff.1 hx).1
  unfold half
  have e : (A.take i).length = i := by rw [List.length_take]; omega
  rw [List.set_append_right _ _ (by omega), e, Nat.sub_self, List.drop_eq_getElem_cons (by omega : i < L.length), List.set_cons_zero, take_snoc hx, List.append_assoc]; rfl
theorem half_zero {α : Type} {A L : List α} : half A L 0 = L := by simp [half]
theorem half_all {α : Type} {A L : List α} {n : Nat} (h : A.length = L.length) (hn : L.length = n) : half A L n = A := by
  unfold half; rw [List.take_of_length_le (by omega), List.drop_eq_nil_of_le (by omega), List.append_nil]
def padK (key : B) (w : UInt8) : B := (key ++ List.replicate (64 - key.length) 0).map (· ^^^ w)
theorem padK_len {key : B} {w : UInt8} (h : key.length ≤ 64) : (padK key w).length = 64 := by simp [padK]; omega
set_option maxRecDepth 100000 in
set_option maxHeartbeats 1500000 in
theorem MacP_ok (key : B) (w : UInt8) (hk : key.length ≤ 64) : FnOK Tryd.prog gl 107 [bb w, .c (.rp [sc key] 0)] (sv (padK key w)) := by
  refine FnOK_by (rs := [.tmp 3]) false [] mixed Tryd.func107 rfl rfl rfl rfl (by kernel_rfl) (by simp) rfl rfl ?_
  have hzb : zbox 64 (.c (.lit (.int .u8 0))) = cl bc (List.replicate 64 0) := zbox_cl (f := bc) (x := (0 : UInt8))
  have hpk : padK key w = (key ++ List.replicate (64 - key.length) 0).map (· ^^^ w) := rfl
  have hcp : (((strC (bs8 key)).take 64).flatten.map V.c) = cl bc key := by
    rw [strC_bs8, List.take_of_length_le (by rw [bC_len]; exact hk), flat_bC]
  have hset : setV (zbox 64 (.c (.lit (.int .u8 0)))) 0 (cl bc key) = cl bc (key ++ List.replicate (64 - key.length) 0) := by
    rw [hzb, setV_clp (by rw [List.length_replicate]; omega), List.take_zero, List.nil_append, Nat.zero_add, List.drop_replicate]
  rw [hpk]
  have hPl : (key ++ List.replicate (64 - key.length) 0).length = 64 := by simp; omega
  simp -implicitDefEqProofs only [pkA, ptA, ↓reduceIte, Nat.reduceAdd, Nat.zero_add]
  refine sl_cl ti_103 rfl ti_5 rfl (l := 0) (h := 64) rfl rfl (by decide) (by decide) ?_
  simp -implicitDefEqProofs only [pkA, ptA, ↓reduceIte, Nat.reduceEqDiff, Nat.reduceAdd, Nat.zero_add, Nat.reduceSub]
  refine copy_of ti_71 rfl ti_5 rfl (by decide) isMb_zbox (by simp [zbox_len]) ?_
  simp -implicitDefEqProofs only [pkA, ↓reduceIte, Nat.reduceAdd, hcp, hset]
  generalize key ++ List.replicate (64 - key.length) 0 = L at *
  generalize hA : L.map (· ^^^ w) = A
  have hAl : A.length = L.length := by rw [← hA]; simp
  have hAt : ∀ i x, L[i]? = some x → A[i]? = some (x ^^^ w) := fun i x h => by rw [← hA, List.getElem?_map, h]; rfl
  refine run_loop (fun i : Nat => hdS [(0, bb w), (4, .bp 0 0), (9, i64 (i : Nat))] [cl bc (half A L i)]) (fun i => 64 - i) (fun i => i ≤ 64) 0 (Nat.zero_le _) ?_ ?_
  · refine le_hd (by simp only [leOk, List.all_cons, List.all_nil, cl_ltB, List.length_cons, List.length_nil]; rfl) (Nat.zero_le _) (by simp) (by simp [FL, up_apply]) (by simp [BL, half_zero])
  rintro i hi R hnorm hexit hret
  have hwi := wrap_of (n := (i : Int) + 1) (k := i + 1) (by omega) (by omega)
  simp -implicitDefEqProofs only [pkA, ↓reduceIte, Nat.reduceEqDiff, Nat.reduceAdd, Nat.zero_add]
  refine vcond_of (fun hlt => ?_) (fun hge => ?_)
  · have hlt : i < 64 := by have := dlt hlt; omega
    obtain ⟨x, hx⟩ : ∃ x, L[i]? = some x := ⟨L[i]'(by omega), List.getElem?_eq_getElem _⟩
    have hhl := half_len hAl (i := i) (by omega)
    simp -implicitDefEqProofs only [pkA, ↓reduceIte, Nat.reduceEqDiff, Nat.reduceAdd]
    refine ia_cl ti_103 rfl ti_5 rfl rfl hlt ?_
    simp -implicitDefEqProofs only [pkA, ptA, ↓reduceIte, Nat.reduceAdd, Nat.reduceMul, Nat.reduceLT, Nat.zero_add, decide_true, isMb_cl]
    refine ld_cl (by decide) (by rw [half_at hAl (by omega)]; exact hx) ?_
    simp -implicitDefEqProofs only [pkA, ↓reduceIte, Nat.reduceEqDiff, b_xor]
    refine ia_cl ti_103 rfl ti_5 rfl rfl hlt ?_
    simp -implicitDefEqProofs only [pkA, ptA, ↓reduceIte, Nat.reduceEqDiff, Nat.reduceAdd, Nat.reduceMul, Nat.reduceLT, Nat.zero_add, decide_true, isMb_cl, cl_len, hwi]
    rw [setV_cl (by omega), half_set hAl (hAt i x hx)]
    refine ⟨by omega, ?_⟩
    exact hnorm (i + 1) _ hlt (by omega) (le_hd (by simp only [leOk, List.all_cons, List.all_nil, cl_ltB, List.length_cons, List.length_nil]; rfl) (Nat.zero_le _) (by simp) (by simp [FL, up_apply]) (by simp [BL]))
  have hi8 : i = 64 := by have := dge hge; omega
  subst hi8
  simp -implicitDefEqProofs only [pkA]
  refine hexit _ _ ?_
  clear hexit hnorm hret hge hwi hi R
  rw [half_all hAl hPl]
  simp -implicitDefEqProofs only [pkA, ↓reduceIte, Nat.reduceEqDiff, Nat.reduceAdd]
  refine sl_cl ti_103 rfl ti_5 rfl (l := 0) (h := 64) rfl rfl (by decide) (by decide) ?_
  simp -implicitDefEqProofs only [pkA, ↓reduceIte, Nat.reduceAdd, Nat.zero_add, Nat.reduceSub]
  rw [vw_all (l := A) (by decide) rfl (by omega)]
  simp -implicitDefEqProofs only [pkA, ↓reduceIte, c_bs]

def macB (key text : B) : B := sumS (addB (addB begin0 (padK (if 64 < key.length then shaS key else key) 92)) (sumS (addB (addB begin0 (padK (if 64 < key.length then shaS key else key) 54)) text)))
set_option maxRecDepth 100000 in
set_option maxHeartbeats 1500000 in
theorem Mac_ok (key text : B) (hk : key.length ≤ 1000000000) (ht : text.length ≤ 1000000000) : FnOK Tryd.prog gl 95 [sv key, sv text] (sv (macB key text)) := by
  refine FnOK_by (rs := [.tmp 4]) false [] mixed Tryd.func95 rfl rfl rfl rfl (by kernel_rfl) (by simp) rfl rfl ?_
  simp -implicitDefEqProofs only [pkA, ptA, ↓reduceIte, Nat.reduceEqDiff, Nat.reduceAdd, Nat.reduceMul, Nat.reduceLT, Nat.zero_add, decide_true, bs8_size]
  have hu : macB key text = sumS (addB (addB begin0 (padK (if 64 < key.length then shaS key else key) 92)) (sumS (addB (addB begin0 (padK (if 64 < key.length then shaS key else key) 54)) text))) := rfl
  rw [hu]
  refine vcond_of (fun h => ?_) (fun h => ?_)
  case' refine_1 =>
    have h : 64 < key.length := by have := of_decide_eq_true h; omega
    rw [if_pos h]
    simp -implicitDefEqProofs only [pkA, ptA, ↓reduceIte, Nat.reduceEqDiff, Nat.reduceAdd, Nat.reduceMul, Nat.reduceLT, decide_true, c_sb]
    refine call_fn rfl (HSum_ok key hk) (fun _ => flat_av _) ?_
    have hk' : (shaS key).length = 32 := sumS_len (addB_ok begin_ok key)
    generalize shaS key = k' at *
    simp -implicitDefEqProofs only [pkA, ptA, ↓reduceIte, Nat.reduceEqDiff, Nat.reduceAdd, Nat.reduceMul, Nat.reduceLT, Nat.reduceLeDiff, Nat.zero_add, decide_true, isMb_zbox, zbox_len]
    rw [setV_zb hk']
    refine ⟨by rw [List.length_map, hk'], ?_⟩
    refine sl_cl ti_109 rfl ti_5 rfl (l := 0) (h := 32) rfl rfl (by decide) (by decide) ?_
    simp -implicitDefEqProofs only [pkA, ↓reduceIte, Nat.reduceAdd, Nat.zero_add, Nat.reduceSub]
    rw [vw_all (l := k') (by decide) rfl (by omega)]
    simp -implicitDefEqProofs only [pkA, ptA, ↓reduceIte, Nat.reduceEqDiff, Nat.reduceAdd, Nat.reduceMul, Nat.reduceLT, Nat.reduceLeDiff, Nat.zero_add, decide_true, c_bs]
    replace hk' : k'.length ≤ 64 := by omega
  case' refine_2 =>
    have h : ¬ 64 < key.length := by have := of_decide_eq_false h; omega
    rw [if_neg h]
    have hk' : key.length ≤ 64 := by omega
    generalize key = k' at *
    simp -implicitDefEqProofs only [pkA, ↓reduceIte, Nat.reduceEqDiff, Nat.reduceAdd]
  all_goals
    refine call_fn rfl Begin_ok (fun _ => flat_st _) ?_
    simp -implicitDefEqProofs only [pkA, ↓reduceIte, Nat.reduceEqDiff, Nat.reduceAdd]
    refine call_clo (fs' := []) (cs' := [.c (.rp [sc k'] 0)])  rfl rfl rfl (MacP_ok k' 54 hk') (fun _ => rfl) ?_
    have hp1 := padK_len (w := 54) hk'
    have hp2 := padK_len (w := 92) hk'
    simp -implicitDefEqProofs only [pkA, ↓reduceIte, Nat.reduceEqDiff, Nat.reduceAdd]
    refine call_fn rfl (Add_ok begin0 _ begin_ok (by omega)) (fun _ => flat_st _) ?_
    have ho1 := addB_ok begin_ok (padK k' 54)
    have hn1 := addB_n begin_ok (padK k' 54)
    rw [hp1] at hn1
    simp -implicitDefEqProofs only [pkA, ↓reduceIte, Nat.reduceEqDiff, Nat.reduceAdd]
    refine call_fn rfl (Add_ok _ _ ho1 (by omega)) (fun _ => flat_st _) ?_
    have ho2 := addB_ok ho1 text
    have hn2 := addB_n ho1 text
    rw [hn1] at hn2
    generalize addB (addB begin0 (padK k' 54)) text = S1 at *
    have hS1 : S1.n ≤ 4611686018427387904 := by rw [hn2, show begin0.n = 0 from rfl]; omega
    simp -implicitDefEqProofs only [pkA, ↓reduceIte, Nat.reduceAdd]
    refine call_fn rfl (Sum_ok _ ho2 hS1) (fun _ => flat_av _) ?_
    have hi := sumS_len ho2
    generalize sumS S1 = inner at *
    simp -implicitDefEqProofs only [pkA, ptA, ↓reduceIte, Nat.reduceEqDiff, Nat.reduceAdd, Nat.reduceMul, Nat.reduceLT, Nat.reduceLeDiff, Nat.zero_add, decide_true, isMb_zbox, zbox_len]
    rw [setV_zb hi]
    refine ⟨by rw [List.length_map, hi], ?_⟩
    refine call_fn rfl Begin_ok (fun _ => flat_st _) ?_
    simp -implicitDefEqProofs only [pkA, ↓reduceIte, Nat.reduceEqDiff, Nat.reduceAdd]
    refine call_clo (fs' := []) (cs' := [.c (.rp [sc k'] 0)]) rfl rfl rfl (MacP_ok k' 92 hk') (fun _ => rfl) ?_
    simp -implicitDefEqProofs only [pkA, ↓reduceIte, Nat.reduceEqDiff, Nat.reduceAdd]
    refine call_fn rfl (Add_ok begin0 _ begin_ok (by omega)) (fun _ => flat_st _) ?_
    have ho3 := addB_ok begin_ok (padK k' 92)
    have hn3 := addB_n begin_ok (padK k' 92)
    rw [hp2] at hn3
    simp -implicitDefEqProofs only [pkA, ↓reduceIte, Nat.reduceEqDiff]
    refine sl_cl ti_109 rfl ti_5 rfl (l := 0) (h := 32) rfl rfl (by decide) (by decide) ?_
    simp -implicitDefEqProofs only [pkA, ↓reduceIte, Nat.reduceAdd, Nat.zero_add, Nat.reduceSub]
    rw [vw_all (l := inner) (by decide) rfl (by omega)]
    simp -implicitDefEqProofs only [pkA, ↓reduceIte, Nat.reduceEqDiff, Nat.reduceAdd, c_bs]
    refine call_fn rfl (Add_ok _ _ ho3 (by omega)) (fun _ => flat_st _) ?_
    have ho4 := addB_ok ho3 inner
    have hn4 := addB_n ho3 inner
    rw [hn3] at hn4
    generalize addB (addB begin0 (padK k' 92)) inner = S2 at *
    have hS2 : S2.n ≤ 4611686018427387904 := by rw [hn4, show begin0.n = 0 from rfl]; omega
    simp -implicitDefEqProofs only [pkA, ↓reduceIte, Nat.reduceAdd]
    refine call_fn rfl (Sum_ok _ ho4 hS2) (fun _ => flat_av _) ?_
    have hj := sumS_len ho4
    generalize sumS S2 = outer at *
    simp -implicitDefEqProofs only [pkA, ptA, ↓reduceIte, Nat.reduceEqDiff, Nat.reduceAdd, Nat.reduceMul, Nat.reduceLT, Nat.reduceLeDiff, Nat.zero_add, decide_true, isMb_zbox, zbox_len]
    rw [setV_zb hj]
    refine ⟨by rw [List.length_map, hj], ?_⟩
    refine sl_cl ti_109 rfl ti_5 rfl (l := 0) (h := 32) rfl rfl (by decide) (by decide) ?_
    simp -implicitDefEqProofs only [pkA, ↓reduceIte, Nat.reduceAdd, Nat.zero_add, Nat.reduceSub]
    rw [vw_all (l := outer) (by decide) rfl (by omega)]
    simp -implicitDefEqProofs only [pkA, ↓reduceIte, c_bs]
end Go.Proofs.YtidlohfkfdeaiaaDoor

/- Layer 2: the digest of parts. -/
namespace Go.Proofs.YtidlohfkfdeaiaaDoor
open Go Go.Vl

def ofS (s : Str) (parts : List B) : Str := parts.foldl (fun s p => addB s (encB p)) s
def tot (parts : List B) : Nat := (parts.map fun p => (encB p).length).sum
theorem ofS_ok : ∀ (parts : List B) (s : Str), s.ok → (ofS s parts).ok
  | [], _, h => h
  | p :: r, s, h => ofS_ok r _ (addB_ok h (encB p))
theorem tot_cons (p : B) (r : List B) : tot (p :: r) = (encB p).length + tot r := by simp [tot]
theorem ofS_n : ∀ (parts : List B) (s : Str), s.ok → s.n + tot parts ≤ 4611686018427387904 → (ofS s parts).n = s.n + tot parts
  | [], s, _, _ => rfl
  | p :: r, s, h, hn => by
    rw [tot_cons] at hn ⊢
    have h1 := addB_n h (encB p)
    have e : (addB s (encB p)).n = s.n + (encB p).length := by rw [h1]; omega
    have := ofS_n r (addB s (encB p)) (addB_ok h (encB p)) (by rw [e]; omega)
    show (ofS (addB s (encB p)) r).n = _
    rw [this, e]; omega
theorem ofS_snoc (s : Str) (l : List B) (p : B) : ofS s (l ++ [p]) = addB (ofS s l) (encB p) := by simp [ofS]
theorem tot_mem : ∀ {parts : List B} {p : B}, p ∈ parts → (encB p).length ≤ tot parts
  | q :: r, p, h => by
    rw [tot_cons]
    rcases List.mem_cons.1 h with rfl | h
    · omega
    · have := tot_mem h; omega
def ofB (tag : Nat) (parts : List B) : B := (sumS (ofS (addB begin0 [UInt8.ofNat tag]) parts)).take 16
set_option maxRecDepth 100000 in
set_option maxHeartbeats 1500000 in
theorem Of_ok (tag : Nat) (parts : List B) (hl : parts.length ≤ 1000000) (ht : tot parts ≤ 1000000000) : FnOK Tryd.prog gl 52 [i64 (tag : Int), .c (.sl (mC sc parts))] (av (ofB tag parts)) := by
  refine FnOK_by (rs := [.cell 4 41]) false [] mixed Tryd.func52 rfl rfl rfl rfl (by kernel_rfl) (by simp) rfl rfl ?_
  have hcv : ∀ K, vconv Tryd.prog 3 5 (.c (.lit (.int .i64 (tag : Int)))) K = K (.c (bc (UInt8.ofNat tag))) := fun K => conv_q8 ti_3 ti_5 rfl
  have hof : ofB tag parts = (sumS (ofS (addB begin0 [UInt8.ofNat tag]) parts)).take 16 := rfl
  rw [hof]
  simp -implicitDefEqProofs only [pkA, ptA, ↓reduceIte, Nat.reduceAdd, Nat.zero_add]
  refine call_fn rfl Begin_ok (fun _ => flat_st _) ?_
  have hb1 : ∀ K, vconv Tryd.prog 71 9 (.c (.sl [[bc (UInt8.ofNat tag)]])) K = K (sv [UInt8.ofNat tag]) := fun K => c_bs (l := [UInt8.ofNat tag])
  simp -implicitDefEqProofs only [pkA, ptA, ↓reduceIte, Nat.reduceEqDiff, Nat.reduceAdd, Nat.reduceMul, Nat.reduceLeDiff, Nat.zero_add, hcv, hb1]
  refine call_fn rfl (Add_ok begin0 [UInt8.ofNat tag] begin_ok (by rw [List.length_singleton]; omega)) (fun _ => flat_st _) ?_
  have ho := addB_ok begin_ok [UInt8.ofNat tag]
  have hn := addB_n begin_ok [UInt8.ofNat tag]
  have hn : (addB begin0 [UInt8.ofNat tag]).n = 1 := by rw [hn]; rfl
  generalize addB begin0 [UInt8.ofNat tag] = S at *
  simp -implicitDefEqProofs only [pkA, ptA, ↓reduceIte, Nat.reduceEqDiff, Nat.reduceAdd, Nat.reduceMul, Nat.reduceLT, Nat.zero_add, decide_true, stV_fold, isMb_stV, zb73, setV_stV ho (stV_len z0_ok)]
  refine ⟨⟨stC_len ho, by rw [stV_len z0_ok]; exact Nat.le_refl _⟩, ?_⟩
  have hzb : zbox 16 (.c (.lit (.int .u8 0))) = cl bc (List.replicate 16 0) := zbox_cl (f := bc) (x := (0 : UInt8))
  rw [mC_len]
  refine run_loop (fun k : Nat => hdS [(4, .bp 0 0), (5, .bp 1 0), (15, .c (.sl (mC sc parts))), (16, i64 (parts.length : Nat)), (17, i64 (k : Nat))] [zbox 16 (.c (.lit (.int .u8 0))), stV (ofS S (parts.take k))]) (fun k => parts.length - k) (fun k => k ≤ parts.length) 0 (Nat.zero_le _) ?_ ?_
  · refine le_hd (by simp only [leOk, List.all_cons, List.all_nil, stV_ltB, hzb, cl_ltB, List.length_cons, List.length_nil]; rfl) (Nat.zero_le _) (by simp) (by simp [FL, up_apply]) (by simp [BL, up_apply, ofS])
  rintro k hk R hnorm hexit hret
  have hok := ofS_ok (parts.take k) S ho
  simp -implicitDefEqProofs only [pkA, ↓reduceIte, Nat.reduceEqDiff, Nat.reduceAdd, Nat.zero_add]
  refine vcond_of (fun hp => ?_) (fun hz => ?_)
  · have hp : k < parts.length := by have := dlt hp; omega
    obtain ⟨x, hx⟩ : ∃ x, parts[k]? = some x := ⟨parts[k], List.getElem?_eq_getElem hp⟩
    have hxl := tot_mem (List.mem_of_getElem? hx)
    have hxe : (encB x).length = (encI (x.length : Int)).length + x.length := by unfold encB; rw [List.length_append]
    have hw1 := wrap_of (n := (k : Int) + 1) (k := k + 1) (by omega) (by omega)
    simp -implicitDefEqProofs only [pkA, ↓reduceIte, Nat.reduceEqDiff, Nat.reduceAdd]
    refine ia_mC ti_76 rfl ti_9 rfl rfl hx ?_
    simp -implicitDefEqProofs only [pkA, ptA, ↓reduceIte, Nat.reduceEqDiff, Nat.reduceAdd, Nat.reduceMul, Nat.reduceLT, decide_true, isMb_stV]
    refine st_all hok (by decide) ?_
    simp -implicitDefEqProofs only [pkA, ↓reduceIte, Nat.reduceEqDiff, Nat.reduceAdd]
    refine call_fn rfl (Bytes_ok x (by omega)) (fun h => by cases h) ?_
    simp -implicitDefEqProofs only [pkA, ↓reduceIte, Nat.reduceEqDiff, Nat.reduceAdd, c_bs]
    refine call_fn rfl (Add_ok _ (encB x) hok (by omega)) (fun _ => flat_st _) ?_
    have hok2 := addB_ok hok (encB x)
    simp -implicitDefEqProofs only [pkA, ptA, ↓reduceIte, Nat.reduceEqDiff, Nat.reduceAdd, Nat.reduceMul, Nat.reduceLT, Nat.zero_add, decide_true, isMb_stV, stV_fold, setV_stV hok2 (stV_len hok), hw1]
    refine ⟨⟨stC_len hok2, by rw [stV_len hok]; exact Nat.le_refl _⟩, ?_⟩
    refine hnorm (k + 1) _ hp (by omega) (le_hd (by simp only [leOk, List.all_cons, List.all_nil, stV_ltB, hzb, cl_ltB, List.length_cons, List.length_nil]; rfl) (Nat.zero_le _) (by simp) (by simp [FL, up_apply]) ?_)
    rw [take_snoc hx, ofS_snoc]
    simp [BL, up_apply, bxs]
  have hz : k = parts.length := by have := dge hz; omega
  subst hz
  rw [List.take_length] at *
  have hnn := ofS_n parts S ho (by omega)
  simp -implicitDefEqProofs only [pkA]
  refine hexit _ _ ?_
  clear hexit hnorm hret R
  have hj := sumS_len hok
  generalize ofS S parts = S2 at *
  simp -implicitDefEqProofs only [pkA, ptA, ↓reduceIte, Nat.reduceEqDiff, Nat.reduceAdd, Nat.reduceMul, Nat.reduceLT, decide_true, isMb_stV]
  refine st_all hok (by decide) ?_
  simp -implicitDefEqProofs only [pkA, ↓reduceIte, Nat.reduceAdd]
  refine call_fn rfl (Sum_ok _ hok (by omega)) (fun _ => flat_av _) ?_
  generalize sumS S2 = outer at *
  simp -implicitDefEqProofs only [pkA, ptA, ↓reduceIte, Nat.reduceEqDiff, Nat.reduceAdd, Nat.reduceMul, Nat.reduceLT, Nat.reduceLeDiff, Nat.zero_add, decide_true, isMb_zbox, zbox_len]
  rw [setV_zb hj]
  refine ⟨by rw [List.length_map, hj], ?_⟩
  refine sl_cl ti_109 rfl ti_5 rfl (l := 0) (h := 16) rfl rfl (by decide) (by decide) ?_
  simp -implicitDefEqProofs only [pkA, ↓reduceIte, Nat.zero_add, Nat.reduceSub]
  refine sp_cl ti_41 rfl ti_5 rfl (by decide) (by decide) ?_
  simp -implicitDefEqProofs only [pkA, ptA, ↓reduceIte, Nat.reduceAdd, Nat.reduceMul, Nat.reduceLT, decide_true, isMb_cl]
  refine ldA_clp (by decide) (by omega) ?_
  rw [List.drop_zero]
  have h16 : (outer.take 16).length = 16 := by rw [List.length_take]; omega
  generalize outer.take 16 = o at *
  simp -implicitDefEqProofs only [pkA, ptA, ↓reduceIte, Nat.reduceEqDiff, Nat.reduceAdd, Nat.reduceMul, Nat.reduceLT, Nat.reduceLeDiff, Nat.zero_add, decide_true, isMb_zbox, zbox_len]
  rw [setV_zb h16]
  exact ⟨by rw [List.length_map, h16], isMb_cl, ldA_cl (by decide) h16 rfl⟩
end Go.Proofs.YtidlohfkfdeaiaaDoor
