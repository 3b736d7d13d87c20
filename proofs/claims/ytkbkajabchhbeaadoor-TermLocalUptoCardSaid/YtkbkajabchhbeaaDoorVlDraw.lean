/- Values without memory: regions that draw their order: an operation's effect. -/
import Derived.Test.YtkbkajabchhbeaaDoorVlCode
import Derived.Orders
set_option linter.unusedSimpArgs false
set_option linter.unusedVariables false
namespace Go.Vl
open Go Go.RowKit
section
variable {P : Program} {G : Gl} {tr : List Nat} {s : S} {o : Oper} {x y : V} {K : V → Prop}
theorem vint_atom {op : BinOp} {k : IntKind} {a b : Int} (h : vint op k a b K) : ∃ v, vint op k a b (fun u => v = u) ∧ K v := by
 cases op <;> simp only [vint] at h ⊢ <;> first | exact ⟨_, rfl, h⟩ | exact ⟨_, ⟨h.1, rfl⟩, h.2⟩
theorem vstr_atom {op : BinOp} {a b : ByteArray} (h : vstr op a b K) : ∃ v, vstr op a b (fun u => v = u) ∧ K v := by
 cases op <;> simp only [vstr] at h ⊢ <;> first | exact h.elim | exact ⟨_, rfl, h⟩ | exact ⟨_, ⟨h.1, rfl⟩, h.2⟩
theorem vbin_atom {op : BinOp} {T : TypeId} (h : vbin P op T x y K) : ∃ v, vbin P op T x y (fun u => v = u) ∧ K v := by
 unfold vbin at h
 split at h
 ·split at h
  ·exact vint_atom h
  ·exact vint_atom h
  ·rename_i h1 h2
   split at h
   ·rename_i hk
    obtain ⟨v, hv, hK⟩ := vint_atom h
    refine ⟨v, ?_, hK⟩
    unfold vbin
    simp only [if_pos hk]
    first | exact hv | (split <;> first | exact hv | simp_all)
   ·exact h.elim
 ·exact vstr_atom h
 ·split at h
  ·rename_i hi
   split at h
   ·exact ⟨_, by simp only [vbin, hi], h⟩
   ·exact ⟨_, by simp only [vbin, hi], h⟩
   ·exact h.elim
  ·exact h.elim
 ·split at h
  ·rename_i hi
   split at h
   ·rename_i hr
    obtain ⟨hl, h⟩ := h
    split at h
    ·exact ⟨_, by simp only [vbin, hi, hr]; exact ⟨hl, trivial⟩, h⟩
    ·exact ⟨_, by simp only [vbin, hi, hr]; exact ⟨hl, trivial⟩, h⟩
    ·exact h.elim
   ·exact h.elim
  ·exact h.elim
 ·exact h.elim
theorem vun_atom {op : UnOp} (h : vun op x K) : ∃ v, vun op x (fun u => v = u) ∧ K v := by
 unfold vun at h
 split at h <;> first | exact h.elim | exact ⟨_, rfl, h⟩
theorem partV_atom {ag : Bool} {sz off : Nat} {cs : List C} (h : partV ag sz off cs K) : ∃ v, partV ag sz off cs (fun u => v = u) ∧ K v := by
 unfold partV at h
 split at h
 ·rename_i hag; exact ⟨_, by unfold partV; rw [if_pos hag]; exact ⟨h.1, rfl⟩, h.2⟩
 ·rename_i hag
  split at h
  ·rename_i c hc; exact ⟨_, by unfold partV; rw [if_neg hag, hc], h⟩
  ·exact h.elim
theorem partM_atom {ag : Bool} {sz off : Nat} {vs : List V} (h : partM ag sz off vs K) : ∃ v, partM ag sz off vs (fun u => v = u) ∧ K v := by
 unfold partM at h
 split at h
 ·rename_i hag; exact ⟨_, by unfold partM; rw [if_pos hag]; exact ⟨h.1, rfl⟩, h.2⟩
 ·rename_i hag
  split at h
  ·rename_i c hc; exact ⟨_, by unfold partM; rw [if_neg hag, hc], h⟩
  ·exact h.elim
theorem vload_atom {T : TypeId} (h : vload P T s x K) : ∃ v, vload P T s x (fun u => v = u) ∧ K v := by
 unfold vload at h
 split at h
 ·rename_i hi
  obtain ⟨v, h1, h2⟩ := partV_atom h
  exact ⟨v, by unfold vload; rw [hi]; exact h1, h2⟩
 ·rename_i i b k hi
  obtain ⟨hb, h⟩ := h
  split at h
  ·rename_i hag
   exact ⟨_, by unfold vload; rw [hi]; refine ⟨hb, ?_⟩; rw [if_pos hag]; exact ⟨h.1, rfl⟩, h.2⟩
  ·rename_i hag
   split at h
   ·rename_i c hc
    exact ⟨_, by unfold vload; rw [hi]; refine ⟨hb, ?_⟩; rw [if_neg hag, hc], h⟩
   ·exact h.elim
 ·rename_i hi
  rcases h with ⟨h1, b, k, len, cap, E, es, c, h2, h⟩ | ⟨b, k, len, cap, E, es, h2, h⟩
  ·exact ⟨_, by unfold vload; simp only [hi]; exact .inl ⟨h1, b, k, len, cap, E, es, c, h2, rfl⟩, h⟩
  ·obtain ⟨v, h3, h4⟩ := partV_atom h
   exact ⟨v, by unfold vload; simp only [hi]; exact .inr ⟨b, k, len, cap, E, es, h2, h3⟩, h4⟩
 ·exact h.elim
theorem vfieldAddr_atom {T : TypeId} {f : Nat} (h : vfieldAddr P T x f K) : ∃ v, vfieldAddr P T x f (fun u => v = u) ∧ K v := by
 unfold vfieldAddr at h
 split at h
 ·rename_i i hi
  split at h
  ·rename_i hf; exact ⟨_, by unfold vfieldAddr; simp only [hi, hf]; exact ⟨h.1, trivial⟩, h.2⟩
  ·rename_i hf; exact ⟨_, by unfold vfieldAddr; simp only [hi, hf]; exact ⟨h.1, trivial⟩, h.2⟩
  ·rename_i hf; exact ⟨_, by unfold vfieldAddr; simp only [hi, hf]; exact ⟨h.1, trivial⟩, h.2⟩
  ·exact h.elim
 ·exact h.elim
theorem vfield_atom {T : TypeId} {f : Nat} (h : vfield P T x f K) : ∃ v, vfield P T x f (fun u => v = u) ∧ K v := by
 unfold vfield at h
 split at h
 ·rename_i hi
  split at h
  ·rename_i hf
   obtain ⟨v, h1, h2⟩ := partV_atom h
   exact ⟨v, by unfold vfield; simp only [hi, hf]; exact h1, h2⟩
  ·exact h.elim
 ·rename_i hi
  split at h
  ·rename_i hf
   obtain ⟨v, h1, h2⟩ := partM_atom h
   exact ⟨v, by unfold vfield; simp only [hi, hf]; exact h1, h2⟩
  ·exact h.elim
 ·exact h.elim
theorem vindexAddr_atom {T : TypeId} (h : vindexAddr P T x y K) : ∃ v, vindexAddr P T x y (fun u => v = u) ∧ K v := by
 unfold vindexAddr at h
 split at h
 ·rename_i hi
  split at h
  ·rename_i hj
   obtain ⟨h0, h⟩ := h
   split at h
   ·rename_i hc
    exact ⟨_, by unfold vindexAddr; simp only [hi, hj, hc]; exact ⟨h0, h.1, trivial⟩, h.2⟩
   ·exact h.elim
  ·exact h.elim
 ·rename_i hi
  split at h
  ·rename_i hj
   exact ⟨_, by unfold vindexAddr; simp only [hi, hj]; exact ⟨h.1, trivial⟩, h.2⟩
  ·exact h.elim
 ·rename_i hi
  split at h
  ·rename_i hj
   exact ⟨_, by unfold vindexAddr; simp only [hi, hj]; exact ⟨h.1, trivial⟩, h.2⟩
  ·exact h.elim
 ·rename_i hi
  split at h
  ·rename_i hj
   exact ⟨_, by unfold vindexAddr; simp only [hi, hj]; exact ⟨h.1, trivial⟩, h.2⟩
  ·exact h.elim
 ·rename_i hi
  split at h
  ·rename_i hj
   exact ⟨_, by unfold vindexAddr; simp only [hi, hj]; exact ⟨h.1, trivial⟩, h.2⟩
  ·exact h.elim
 ·exact h.elim
theorem vindex_atom {T : TypeId} (h : vindex P T x y K) : ∃ v, vindex P T x y (fun u => v = u) ∧ K v := by
 unfold vindex at h
 split at h
 ·rename_i hi
  obtain ⟨h0, h⟩ := h
  split at h
  ·rename_i hc
   exact ⟨_, by unfold vindex; simp only [hi, hc]; exact ⟨h0, trivial⟩, h⟩
  ·exact h.elim
 ·rename_i hi
  split at h
  ·rename_i hj
   obtain ⟨v, h1, h2⟩ := partV_atom h.2
   exact ⟨v, by unfold vindex; simp only [hi, hj]; exact ⟨h.1, h1⟩, h2⟩
  ·exact h.elim
 ·exact h.elim
theorem vslice_atom {T : TypeId} {lo hi mx : Option V} (h : vslice P T x lo hi mx K) : ∃ v, vslice P T x lo hi mx (fun u => v = u) ∧ K v := by
 unfold vslice at h
 split at h
 ·rename_i ht
  split at h
  ·rename_i e1 e2
   exact ⟨_, by unfold vslice; simp only [ht, e1, e2]; exact ⟨h.1, trivial⟩, h.2⟩
  ·exact h.elim
 ·rename_i ht
  split at h
  ·split at h
   ·rename_i e1 e2 e3
    exact ⟨_, by unfold vslice; simp only [ht, e1, e2, e3]; exact ⟨h.1, trivial⟩, h.2⟩
   ·exact h.elim
  ·split at h
   ·rename_i e1 e2
    exact ⟨_, by unfold vslice; simp only [ht, e1, e2]; exact ⟨h.1, trivial⟩, h.2⟩
   ·exact h.elim
  ·exact h.elim
 ·rename_i ht
  split at h
  ·rename_i e1 e2 e3 e4
   exact ⟨_, by unfold vslice; simp only [ht, e1, e2, e3, e4]; exact ⟨h.1, trivial⟩, h.2⟩
  ·exact h.elim
 ·rename_i ht
  split at h
  ·rename_i e1 e2 e3 e4
   exact ⟨_, by unfold vslice; simp only [ht, e1, e2, e3, e4]; exact ⟨h.1, trivial⟩, h.2⟩
  ·exact h.elim
 ·rename_i ht
  split at h
  ·rename_i e1
   exact ⟨_, by unfold vslice; simp only [ht, e1]; exact ⟨h.1, trivial⟩, h.2⟩
  ·exact h.elim
 ·rename_i ht
  split at h
  ·rename_i e1 e2 e3
   exact ⟨_, by unfold vslice; simp only [ht, e1, e2, e3]; exact ⟨h.1, trivial⟩, h.2⟩
  ·exact h.elim
 ·exact h.elim
theorem vsap_atom {T : TypeId} (h : vsap P T x K) : ∃ v, vsap P T x (fun u => v = u) ∧ K v := by
 unfold vsap at h
 split at h
 ·rename_i e1
  split at h
  ·rename_i e2; exact ⟨_, by unfold vsap; simp only [e1, e2]; exact ⟨h.1, trivial⟩, h.2⟩
  ·exact h.elim
 ·exact h.elim
theorem vconv_atom {src dst : TypeId} (h : vconv P src dst x K) : ∃ v, vconv P src dst x (fun u => v = u) ∧ K v := by
 unfold vconv at h
 split at h
 ·rename_i e1 e2; exact ⟨_, by unfold vconv; simp only [e1, e2], h⟩
 ·rename_i e1 e2; exact ⟨_, by unfold vconv; simp only [e1, e2], h⟩
 ·rename_i e1 e2
  split at h
  ·rename_i e3; exact ⟨_, by unfold vconv; simp only [e1, e2, e3], h⟩
  ·exact h.elim
 ·rename_i e1 e2
  split at h
  ·rename_i e3
   split at h
   ·rename_i e4; exact ⟨_, by unfold vconv; simp only [e1, e2, e3, e4], h⟩
   ·exact h.elim
  ·exact h.elim
 ·exact h.elim
theorem vbuild_atom {T : TypeId} {parts : List (Nat × V)} (h : vbuild P T parts K) : ∃ v, vbuild P T parts (fun u => v = u) ∧ K v := by
 unfold vbuild at h
 split at h
 ·rename_i e1
  split at h
  ·rename_i e2; exact ⟨_, by unfold vbuild; simp only [e1, e2], h⟩
  ·rename_i e2
   split at h
   ·rename_i e3; exact ⟨_, by unfold vbuild; simp only [e1, e2, e3], h⟩
   ·exact h.elim
 ·rename_i e1
  split at h
  ·rename_i e2
   split at h
   ·rename_i e3; exact ⟨_, by unfold vbuild; simp only [e1, e2, e3], h⟩
   ·exact h.elim
  ·exact h.elim
 ·exact h.elim
theorem vbuildSlice_atom {T : TypeId} {len : Nat} {parts : List (Nat × V)} (h : vbuildSlice P T len parts K) : ∃ v, vbuildSlice P T len parts (fun u => v = u) ∧ K v := by
 unfold vbuildSlice at h
 split at h
 ·rename_i e1
  split at h
  ·rename_i e2
   obtain ⟨h0, h⟩ := h
   split at h
   ·rename_i e3; exact ⟨_, by unfold vbuildSlice; simp only [e1, e2, e3]; exact ⟨h0, trivial⟩, h⟩
   ·exact h.elim
  ·exact h.elim
 ·exact h.elim
theorem vlen_atom {T : TypeId} (h : vlen P T x K) : ∃ v, vlen P T x (fun u => v = u) ∧ K v := by
 unfold vlen at h
 split at h
 all_goals first | exact h.elim | (rename_i e1; exact ⟨_, by unfold vlen; simp only [e1], h⟩)
theorem vappend_atom {T : TypeId} (h : vappend P T x y K) : ∃ v, vappend P T x y (fun u => v = u) ∧ K v := by
 unfold vappend at h
 split at h
 ·rename_i e1
  split at h
  ·rename_i e2
   obtain ⟨h0, h⟩ := h
   split at h
   ·exact ⟨_, by unfold vappend; simp only [e1, e2]; exact ⟨h0, h.1, trivial⟩, h.2⟩
   ·exact h.elim
  ·exact h.elim
 ·exact h.elim
theorem vmin_atom {mx : Bool} {l : List V} (h : vmin mx l K) : ∃ v, vmin mx l (fun u => v = u) ∧ K v := by
 unfold vmin at h
 split at h
 ·exact ⟨_, rfl, h⟩
 ·exact h.elim
theorem vcall_atom {f : V} {l : List V} (h : vcall P G s f l K) : ∃ v, vcall P G s f l (fun u => v = u) ∧ K v := by
 unfold vcall at h
 split at h
 ·split at h
  ·rename_i e1
   obtain ⟨r, h1, h2, h3⟩ := h
   exact ⟨r, by unfold vcall; simp only [e1]; exact ⟨r, h1, h2, rfl⟩, h3⟩
  ·exact h.elim
 ·split at h
  ·rename_i e1 e2 e3
   obtain ⟨r, h1, h2, h3⟩ := h
   exact ⟨r, by unfold vcall; simp only [e1, e2, e3]; exact ⟨r, h1, h2, rfl⟩, h3⟩
  ·exact h.elim
 ·exact h.elim
theorem vbuiltin_atom {b : Builtin} {ts : List TypeId} {l : List V} (h : vbuiltin P b ts l K) : ∃ v, vbuiltin P b ts l (fun u => v = u) ∧ K v := by
 unfold vbuiltin at h
 split at h
 ·exact vlen_atom h
 ·split at h
  ·rename_i ht
   obtain ⟨v, h1, h2⟩ := vappend_atom h
   exact ⟨v, by unfold vbuiltin; simp only [if_pos ht]; exact h1, h2⟩
  ·rename_i ht
   unfold vappStr at h
   split at h
   ·rename_i e0 e1 e2
    split at h
    ·rename_i e3
     obtain ⟨h0, h⟩ := h
     obtain ⟨v, h1, h2⟩ := vappend_atom h
     exact ⟨v, by unfold vbuiltin vappStr; simp only [if_neg ht, e0, e1, e2, e3]; exact ⟨h0, h1⟩, h2⟩
    ·exact h.elim
   ·exact h.elim
 ·exact vmin_atom h
 ·exact vmin_atom h
 ·exact h.elim
theorem vcallE_atom {bx : Nat → List V} {nb : Nat} {f : V} {l : List V} {K : (Nat → List V) → Nat → V → Prop} (h : vcallE P G bx nb f l K) : ∃ bx' nb' v, vcallE P G bx nb f l (fun b n u => (bx' = b ∧ nb' = n) ∧ v = u) ∧ K bx' nb' v := by
 unfold vcallE at h
 split at h
 ·rename_i g all e1
  obtain ⟨ρ, cargs, b0, r, b1, h1, h2, h3, h4, h5⟩ := h
  exact ⟨_, _, _, by unfold vcallE; simp only [e1]; exact ⟨ρ, cargs, b0, r, b1, h1, h2, h3, h4, ⟨rfl, rfl⟩, rfl⟩, h5⟩
 ·exact h.elim
theorem vnewE_atom {bx : Nat → List V} {nb n m : Nat} {K : (Nat → List V) → Nat → V → Prop} (h : vnewE bx nb n m K x) : ∃ bx' nb' v, vnewE bx nb n m (fun b n u => (bx' = b ∧ nb' = n) ∧ v = u) x ∧ K bx' nb' v := by
 unfold vnewE at h
 split at h
 ·exact ⟨_, _, _, ⟨⟨rfl, rfl⟩, rfl⟩, h⟩
 ·exact h.elim
theorem vmake_atom {T : TypeId} {K : Nat → Nat → Nat → List C → Prop} (h : vmake P T x y K) : ∃ n m sz z, vmake P T x y (fun n' m' sz' z' => n = n' ∧ m = m' ∧ sz = sz' ∧ z = z') ∧ K n m sz z := by
 unfold vmake at h
 split at h
 ·rename_i e1
  split at h
  ·rename_i e2
   exact ⟨_, _, _, _, by unfold vmake; simp only [e1, e2]; exact ⟨h.1, by simp⟩, h.2⟩
  ·exact h.elim
 ·exact h.elim
theorem vmapAt_atom {T : TypeId} {K : Nat → List Nat → Nat → List V → Option Nat → V → Prop} (h : vmapAt P T s x y K) :
  ∃ i bs cl r res z, vmapAt P T s x y (fun i' bs' cl' r' res' z' => i = i' ∧ bs = bs' ∧ cl = cl' ∧ r = r' ∧ res = res' ∧ z = z') ∧ K i bs cl r res z := by
 unfold vmapAt at h
 split at h
 ·rename_i e1
  split at h
  ·rename_i e2 e3
   split at h
   ·rename_i e4 e5 e6
    split at h
    ·rename_i e7
     split at h
     ·rename_i e8
      exact ⟨_, _, _, _, _, _, by unfold vmapAt; simp only [e1, e2, e3, e4, e5, e6, e7, e8]; exact ⟨h.1, by simp⟩, h.2⟩
     ·exact h.elim
    ·exact h.elim
   ·exact h.elim
  ·exact h.elim
 ·exact h.elim
theorem vmapAt_use {T : TypeId} {i cl : Nat} {bs : List Nat} {r : List V} {res : Option Nat} {z : V} {K : Nat → List Nat → Nat → List V → Option Nat → V → Prop}
  (h : vmapAt P T s x y (fun i' bs' cl' r' res' z' => i = i' ∧ bs = bs' ∧ cl = cl' ∧ r = r' ∧ res = res' ∧ z = z')) (hK : K i bs cl r res z) : vmapAt P T s x y K := by
 unfold vmapAt at h
 split at h
 ·rename_i e1
  split at h
  ·rename_i e2 e3
   split at h
   ·rename_i e4 e5 e6
    split at h
    ·rename_i e7
     split at h
     ·rename_i e8
      obtain ⟨h1, rfl, rfl, rfl, rfl, rfl, rfl⟩ := h
      unfold vmapAt; simp only [e1, e2, e3, e4, e5, e6, e7, e8]; exact ⟨h1, hK⟩
     ·exact h.elim
    ·exact h.elim
   ·exact h.elim
  ·exact h.elim
 ·exact h.elim
theorem vmapAt_of {T : TypeId} {kt et : TypeId} {tT tk te : TI} {ks : List EK} {kc : List C} {k z : V} {i cl : Nat} {bs : List Nat} {r : List V} {kcs : List (List C)} {res : Option Nat} {KM : Nat → List Nat → Nat → List V → Option Nat → V → Prop}
  (hT : ti P T = some tT) (hm : tT.kd = .map kt et) (hk : ti P kt = some tk) (hks : tk.eqs = some ks) (he : ti P et = some te) (hc : k.kcs tk.agg = some kc) (hz : zeroOf te = some z) (hb : s.bx i = .mk bs cl :: r)
  (hkc : keysOf tk.agg r = some kcs) (hf : findK ks kc kcs 0 = some res) (hi : i < s.nb) (hl : kc.length = ks.length) (hr : eqCs ks kc kc = some true) (ha : zaB P et = true) (hK : KM i bs cl r res z) : vmapAt P T s (.mr i) k KM := by
 obtain ⟨kd, a1, a2, a3, a4, a5, a6⟩ := tT
 obtain ⟨b1, b2, b3, ag, b5, b6, b7⟩ := tk
 simp only at hm hks hc hkc
 subst hm; subst hks
 unfold vmapAt
 simp only [hT, hk, he, hc, hz, hb, hkc, hf]
 exact ⟨⟨hi, hl, hr, ha⟩, hK⟩
theorem vmapAt_both {T : TypeId} {K K' : Nat → List Nat → Nat → List V → Option Nat → V → Prop} (h : vmapAt P T s x y K) (h' : vmapAt P T s x y K') : ∃ i bs cl r res z, K i bs cl r res z ∧ K' i bs cl r res z := by
 unfold vmapAt at h
 split at h
 ·rename_i e1
  split at h
  ·rename_i e2 e3
   split at h
   ·rename_i e4 e5 e6
    split at h
    ·rename_i e7
     split at h
     ·rename_i e8
      unfold vmapAt at h'; simp only [e1, e2, e3, e4, e5, e6, e7, e8] at h'
      exact ⟨_, _, _, _, _, _, h.2, h'.2⟩
     ·exact h.elim
    ·exact h.elim
   ·exact h.elim
  ·exact h.elim
 ·exact h.elim
theorem vmapAt_fr {T : TypeId} {s' : S} {K : Nat → List Nat → Nat → List V → Option Nat → V → Prop} (hb : s.bx = s'.bx) (hn : s.nb = s'.nb) (h : vmapAt P T s x y K) : vmapAt P T s' x y K := by
 unfold vmapAt at h ⊢
 rw [← hb, ← hn]; exact h
theorem vmapSet_atom {T : TypeId} {v : V} {K : S → Prop} (h : vmapSet P T s x y v K) : ∃ bx, vmapSet P T ⟨fun _ => .un, s.bx, s.nb⟩ x y v (fun s' => bx = s'.bx) ∧ K { s with bx := bx } := by
 unfold vmapSet at h
 obtain ⟨i, bs, cl, r, res, z, h1, h2⟩ := vmapAt_atom h
 cases res with
 | none => exact ⟨_, vmapAt_use (vmapAt_fr rfl rfl h1) rfl, h2⟩
 | some j => exact ⟨_, vmapAt_use (vmapAt_fr rfl rfl h1) rfl, h2⟩
theorem vmapSet_back {T : TypeId} {v : V} {bx : Nat → List V} (h : vmapSet P T ⟨fun _ => .un, s.bx, s.nb⟩ x y v (fun s' => bx = s'.bx)) : vmapSet P T s x y v (fun s' => { s with bx := bx } = s') := by
 unfold vmapSet at h
 obtain ⟨i, bs, cl, r, res, z, h1, h2⟩ := vmapAt_atom h
 cases res with
 | none => simp only at h2; subst h2; exact vmapAt_use (vmapAt_fr rfl rfl h1) rfl
 | some j => simp only at h2; subst h2; exact vmapAt_use (vmapAt_fr rfl rfl h1) rfl
theorem vmapEntry_atom {T : TypeId} {K : S → V → Prop} (h : vmapEntry P T s x y K) : ∃ bx v, vmapEntry P T ⟨fun _ => .un, s.bx, s.nb⟩ x y (fun s' u => bx = s'.bx ∧ v = u) ∧ K { s with bx := bx } v := by
 unfold vmapEntry at h
 obtain ⟨i, bs, cl, r, res, z, h1, h2⟩ := vmapAt_atom h
 cases res with
 | none => exact ⟨_, _, vmapAt_use (vmapAt_fr rfl rfl h1) ⟨rfl, rfl⟩, h2⟩
 | some j => exact ⟨s.bx, _, vmapAt_use (vmapAt_fr rfl rfl h1) ⟨rfl, rfl⟩, h2⟩
theorem vmapEntry_back {T : TypeId} {v : V} {bx : Nat → List V} (h : vmapEntry P T ⟨fun _ => .un, s.bx, s.nb⟩ x y (fun s' u => bx = s'.bx ∧ v = u)) : vmapEntry P T s x y (fun s' u => { s with bx := bx } = s' ∧ v = u) := by
 unfold vmapEntry at h
 obtain ⟨i, bs, cl, r, res, z, h1, h2⟩ := vmapAt_atom h
 cases res with
 | none => obtain ⟨rfl, rfl⟩ := h2; exact vmapAt_use (vmapAt_fr rfl rfl h1) ⟨rfl, rfl⟩
 | some j => obtain ⟨rfl, rfl⟩ := h2; exact vmapAt_use (vmapAt_fr rfl rfl h1) ⟨rfl, rfl⟩
theorem ventrySet_atom {v : V} {K : S → Prop} (h : ventrySet s x y v K) : ∃ bx, ventrySet ⟨fun _ => .un, s.bx, s.nb⟩ x y v (fun s' => bx = s'.bx) ∧ K { s with bx := bx } := by
 unfold ventrySet at h
 split at h
 ·split at h
  ·rename_i e2
   split at h
   ·rename_i e3; exact ⟨_, by unfold ventrySet; simp only [e2, e3]; exact ⟨h.1, trivial⟩, h.2⟩
   ·exact h.elim
  ·exact h.elim
 ·exact h.elim
theorem ventrySet_back {v : V} {bx : Nat → List V} (h : ventrySet ⟨fun _ => .un, s.bx, s.nb⟩ x y v (fun s' => bx = s'.bx)) : ventrySet s x y v (fun s' => { s with bx := bx } = s') := by
 unfold ventrySet at h
 split at h
 ·split at h
  ·rename_i e2
   split at h
   ·rename_i e3; obtain ⟨h1, rfl⟩ := h; unfold ventrySet; simp only [show s.bx _ = _ from e2, e3]; exact ⟨h1, trivial⟩
   ·exact h.elim
  ·exact h.elim
 ·exact h.elim
theorem vcopy_atom {ts : List TypeId} {xs : List V} {K : S → V → Prop} (h : vcopy P s K ts xs) : ∃ bx v, vcopy P ⟨fun _ => .un, s.bx, s.nb⟩ (fun s' u => bx = s'.bx ∧ v = u) ts xs ∧ K { s with bx := bx } v := by
 unfold vcopy at h
 split at h
 ·split at h
  ·rename_i e1
   split at h
   ·rename_i e2; exact ⟨_, _, by unfold vcopy; simp only [e1, e2]; exact ⟨h.1, by simp⟩, h.2⟩
   ·exact h.elim
  ·exact h.elim
 ·exact h.elim
theorem vcopy_back {ts : List TypeId} {xs : List V} {bx : Nat → List V} {v : V} (h : vcopy P ⟨fun _ => .un, s.bx, s.nb⟩ (fun s' u => bx = s'.bx ∧ v = u) ts xs) : vcopy P s (fun s' u => { s with bx := bx } = s' ∧ v = u) ts xs := by
 unfold vcopy at h
 split at h
 ·split at h
  ·rename_i e1
   split at h
   ·rename_i e2; obtain ⟨h0, rfl, rfl⟩ := h; unfold vcopy; simp only [e1, e2]; exact ⟨h0, by simp⟩
   ·exact h.elim
  ·exact h.elim
 ·exact h.elim
theorem vcopy_K {ts : List TypeId} {xs : List V} {K K' : S → V → Prop} (h : vcopy P s K ts xs) (hk : ∀ s v, K s v → K' s v) : vcopy P s K' ts xs := by
 unfold vcopy at h
 split at h
 ·split at h
  ·rename_i e1
   split at h
   ·rename_i e2; unfold vcopy; simp only [e1, e2]; exact ⟨h.1, hk _ _ h.2⟩
   ·exact h.elim
  ·exact h.elim
 ·exact h.elim
theorem vappRoom_atom {ts : List TypeId} {xs : List V} {K : S → V → Prop} (h : vappRoom P s K ts xs) : ∃ bx v, vappRoom P ⟨fun _ => .un, s.bx, s.nb⟩ (fun s' u => bx = s'.bx ∧ v = u) ts xs ∧ K { s with bx := bx } v := by
 unfold vappRoom at h
 split at h
 ·rename_i b off len cap sz y
  have hi : immC s y = immC ⟨fun _ => .un, s.bx, s.nb⟩ y := by cases y <;> rfl
  split at h
  ·rename_i e1 e2
   split at h
   ·rename_i e3; exact ⟨_, _, by unfold vappRoom; rw [hi] at e2; simp only [e1, e2, e3]; exact ⟨h.1, by simp⟩, h.2⟩
   ·exact h.elim
  ·exact h.elim
 ·split at h
  ·rename_i e1
   split at h
   ·rename_i e2
    obtain ⟨b, k, j, E, es, h1, h2⟩ := h
    exact ⟨_, _, by unfold vappRoom; simp only [e1, e2]; exact ⟨b, k, j, E, es, h1, by simp⟩, h2⟩
   ·exact h.elim
  ·exact h.elim
 ·exact h.elim
theorem vappRoom_back {ts : List TypeId} {xs : List V} {bx : Nat → List V} {v : V} (h : vappRoom P ⟨fun _ => .un, s.bx, s.nb⟩ (fun s' u => bx = s'.bx ∧ v = u) ts xs) : vappRoom P s (fun s' u => { s with bx := bx } = s' ∧ v = u) ts xs := by
 unfold vappRoom at h
 split at h
 ·rename_i b off len cap sz y
  have hi : immC s y = immC ⟨fun _ => .un, s.bx, s.nb⟩ y := by cases y <;> rfl
  split at h
  ·rename_i e1 e2
   split at h
   ·rename_i e3; obtain ⟨h0, rfl, rfl⟩ := h; unfold vappRoom; rw [← hi] at e2; simp only [e1, e2, e3]; exact ⟨h0, by simp⟩
   ·exact h.elim
  ·exact h.elim
 ·split at h
  ·rename_i e1
   split at h
   ·rename_i e2
    obtain ⟨b, k, j, E, es, h1, rfl, rfl⟩ := h
    unfold vappRoom; simp only [e1, e2]; exact ⟨b, k, j, E, es, h1, by simp⟩
   ·exact h.elim
  ·exact h.elim
 ·exact h.elim
theorem vappRoom_K {ts : List TypeId} {xs : List V} {K K' : S → V → Prop} (h : vappRoom P s K ts xs) (hk : ∀ s v, K s v → K' s v) : vappRoom P s K' ts xs := by
 unfold vappRoom at h
 split at h
 ·split at h
  ·rename_i e1 e2
   split at h
   ·rename_i e3; unfold vappRoom; simp only [e1, e2, e3]; exact ⟨h.1, hk _ _ h.2⟩
   ·exact h.elim
  ·exact h.elim
 ·split at h
  ·rename_i e1
   split at h
   ·rename_i e2
    obtain ⟨b, k, j, E, es, h1, h2⟩ := h
    unfold vappRoom; simp only [e1, e2]; exact ⟨b, k, j, E, es, h1, hk _ _ h2⟩
   ·exact h.elim
  ·exact h.elim
 ·exact h.elim
theorem vappRoom_use {tr : List Nat} {o : Oper} {args : Array Operand} {ts : Array TypeId} {K : S → V → Prop} {s' : S} (hop : o.op = .call { callee := .builtin .append, args := args, argTypes := ts }) (h : vappRoom P s' K ts.toList (args.toList.map (ev G s))) :
  s.use (consT tr o) = s := by
 have e : consT tr o = match args.toList with | .tmp t :: _ => some t | _ => none := by
  unfold consT; rw [hop]; rfl
 rw [e]
 split
 ·rename_i t r ha
  rw [ha, List.map_cons] at h
  unfold vappRoom at h
  split at h
  ·rename_i b off len cap sz y heq1 heq2
   simp only [List.cons.injEq] at heq2
   have : s.fr t = .ms b off len cap sz := heq2.1
   simp [S.use, this, V.isOw]
  ·rename_i heq1 heq2
   simp only [List.cons.injEq] at heq2
   have := heq2.1
   simp only [ev] at this
   simp [S.use, this, V.isOw]
  ·exact h.elim
 ·rfl
theorem vclear_atom {ts : List TypeId} {xs : List V} {K : S → Prop} (h : vclear P s K ts xs) : ∃ bx, vclear P ⟨fun _ => .un, s.bx, s.nb⟩ (fun s' => bx = s'.bx) ts xs ∧ K { s with bx := bx } := by
 unfold vclear at h
 split at h
 ·split at h
  ·rename_i e1
   split at h
   ·rename_i e2; exact ⟨_, by unfold vclear; simp only [e1, e2]; exact ⟨h.1, trivial⟩, h.2⟩
   ·exact h.elim
  ·exact h.elim
 ·split at h
  ·rename_i e1
   split at h
   ·rename_i e2
    obtain ⟨b, k, j, cap, E, es, h1, h2⟩ := h
    exact ⟨_, by unfold vclear; simp only [e1, e2]; exact ⟨b, k, j, cap, E, es, h1, rfl⟩, h2⟩
   ·exact h.elim
  ·exact h.elim
 ·exact h.elim
theorem vclear_back {ts : List TypeId} {xs : List V} {bx : Nat → List V} (h : vclear P ⟨fun _ => .un, s.bx, s.nb⟩ (fun s' => bx = s'.bx) ts xs) : vclear P s (fun s' => { s with bx := bx } = s') ts xs := by
 unfold vclear at h
 split at h
 ·split at h
  ·rename_i e1
   split at h
   ·rename_i e2; obtain ⟨h0, rfl⟩ := h; unfold vclear; simp only [e1, e2]; exact ⟨h0, trivial⟩
   ·exact h.elim
  ·exact h.elim
 ·split at h
  ·rename_i e1
   split at h
   ·rename_i e2
    obtain ⟨b, k, j, cap, E, es, h1, rfl⟩ := h
    unfold vclear; simp only [e1, e2]; exact ⟨b, k, j, cap, E, es, h1, rfl⟩
   ·exact h.elim
  ·exact h.elim
 ·exact h.elim
theorem vclear_K {ts : List TypeId} {xs : List V} {K K' : S → Prop} (h : vclear P s K ts xs) (hk : ∀ s, K s → K' s) : vclear P s K' ts xs := by
 unfold vclear at h
 split at h
 ·split at h
  ·rename_i e1
   split at h
   ·rename_i e2; unfold vclear; simp only [e1, e2]; exact ⟨h.1, hk _ h.2⟩
   ·exact h.elim
  ·exact h.elim
 ·split at h
  ·rename_i e1
   split at h
   ·rename_i e2
    obtain ⟨b, k, j, cap, E, es, h1, h2⟩ := h
    unfold vclear; simp only [e1, e2]; exact ⟨b, k, j, cap, E, es, h1, hk _ h2⟩
   ·exact h.elim
  ·exact h.elim
 ·exact h.elim
theorem vmapSet_K {T : TypeId} {v : V} {K K' : S → Prop} (h : vmapSet P T s x y v K) (hk : ∀ s, K s → K' s) : vmapSet P T s x y v K' := by
 unfold vmapSet at h
 obtain ⟨i, bs, cl, r, res, z, h1, h2⟩ := vmapAt_atom h
 refine vmapAt_use h1 ?_
 cases res <;> exact hk _ h2
theorem vmapEntry_K {T : TypeId} {K K' : S → V → Prop} (h : vmapEntry P T s x y K) (hk : ∀ s v, K s v → K' s v) : vmapEntry P T s x y K' := by
 unfold vmapEntry at h
 obtain ⟨i, bs, cl, r, res, z, h1, h2⟩ := vmapAt_atom h
 refine vmapAt_use h1 ?_
 cases res <;> exact hk _ _ h2
theorem ventrySet_K {v : V} {K K' : S → Prop} (h : ventrySet s x y v K) (hk : ∀ s, K s → K' s) : ventrySet s x y v K' := by
 unfold ventrySet at h
 split at h
 ·split at h
  ·rename_i e2
   split at h
   ·rename_i e3; unfold ventrySet; simp only [e2, e3]; exact ⟨h.1, hk _ h.2⟩
   ·exact h.elim
  ·exact h.elim
 ·exact h.elim
theorem vlookup_atom {T : TypeId} {ok : Bool} (h : vlookup P T s x y ok K) : ∃ v, vlookup P T s x y ok (fun u => v = u) ∧ K v := by
 unfold vlookup at h
 obtain ⟨i, bs, cl, r, res, z, h1, h2⟩ := vmapAt_atom h
 cases res with
 | none => cases ok <;> exact ⟨_, vmapAt_use h1 rfl, h2⟩
 | some j => cases ok <;> exact ⟨_, vmapAt_use h1 rfl, h2⟩
theorem vlookup_det {T : TypeId} {ok : Bool} {v u : V} (h : vlookup P T s x y ok (fun w => v = w)) (h' : vlookup P T s x y ok (fun w => u = w)) : v = u := by
 unfold vlookup at h h'
 obtain ⟨i, bs, cl, r, res, z, h1, h2⟩ := vmapAt_atom h
 obtain ⟨i', bs', cl', r', res', z', h1', h2'⟩ := vmapAt_atom h'
 have e : i' = i ∧ bs' = bs ∧ cl' = cl ∧ r' = r ∧ res' = res ∧ z' = z := by
  have := vmapAt_both h1 h1'
  obtain ⟨_, _, _, _, _, _, ⟨rfl, rfl, rfl, rfl, rfl, rfl⟩, rfl, rfl, rfl, rfl, rfl, rfl⟩ := this
  exact ⟨rfl, rfl, rfl, rfl, rfl, rfl⟩
 obtain ⟨rfl, rfl, rfl, rfl, rfl, rfl⟩ := e
 cases res' <;> cases ok <;> simp only at h2 h2' <;> (rw [show v = _ from h2, show u = _ from h2'])
theorem vrange_atom {T : TypeId} (h : vrange P T s x K) : ∃ v, vrange P T s x (fun u => v = u) ∧ K v := by
 unfold vrange at h
 split at h
 ·rename_i e1
  split at h
  ·rename_i e2; exact ⟨_, by unfold vrange; simp only [e1, e2]; exact ⟨h.1, trivial⟩, h.2⟩
  ·exact h.elim
 ·exact h.elim
theorem ventry_atom (h : ventry s x K) : ∃ v, ventry s x (fun u => v = u) ∧ K v := by
 unfold ventry at h
 split at h
 ·split at h
  ·rename_i e2 e3
   split at h
   ·rename_i e4; exact ⟨_, by unfold ventry; simp only [e2, e3, e4]; exact ⟨h.1, trivial⟩, h.2⟩
   ·exact h.elim
  ·exact h.elim
 ·exact h.elim
theorem vappG_atom {ts : List TypeId} {E : Option (TypeId × Nat)} {es : List (List C)} (h : vappG P ts E es y K) : ∃ v, vappG P ts E es y (fun u => v = u) ∧ K v := by
 unfold vappG at h
 split at h
 ·obtain ⟨h1, h⟩ := h
  split at h
  ·rename_i e3
   split at h
   ·rename_i e4
    obtain ⟨h2, h⟩ := h
    split at h
    ·exact ⟨_, by unfold vappG; simp only [e3, e4]; exact ⟨h1, h2, h.1, trivial⟩, h.2⟩
    ·exact h.elim
   ·exact h.elim
  ·exact h.elim
 ·exact h.elim
theorem vghost_atom {d : Option Tmp} {args : List Operand} {ts : List TypeId} (h : vghost P G s d ts args K) : ∃ v, vghost P G s d ts args (fun u => v = u) ∧ K v := by
 unfold vghost at h
 split at h
 ·split at h
  ·rename_i e1 e2
   obtain ⟨h0, h⟩ := h
   obtain ⟨v, h1, h2⟩ := vbuiltin_atom h
   exact ⟨v, by unfold vghost; simp only [e1, e2]; exact ⟨h0, h1⟩, h2⟩
  ·rename_i e1 e2
   obtain ⟨h0, h⟩ := h
   obtain ⟨v, h1, h2⟩ := vappG_atom h
   exact ⟨v, by unfold vghost; simp only [e1, e2]; exact ⟨h0, h1⟩, h2⟩
  ·exact h.elim
 ·exact h.elim
theorem vhot_atom {d : Option Tmp} {args : List Operand} {ts : List TypeId} (h : vhot P G s d ts args K) : ∃ v, vhot P G s d ts args (fun u => v = u) ∧ K v := by
 unfold vhot at h
 split at h
 ·split at h
  ·rename_i e1 e2
   obtain ⟨h0, h⟩ := h
   unfold vappH at h
   split at h
   ·obtain ⟨h1, h⟩ := h
    split at h
    ·rename_i e3
     split at h
     ·rename_i e4
      obtain ⟨h2, h⟩ := h
      split at h
      ·rename_i e5
       exact ⟨_, by unfold vhot; simp only [e1, e2]; refine ⟨h0, ?_⟩; unfold vappH; simp only [e3, e4, e5]; exact ⟨h1, h2, h.1, trivial⟩, h.2⟩
      ·exact h.elim
     ·exact h.elim
    ·exact h.elim
   ·exact h.elim
  ·exact h.elim
 ·exact h.elim
theorem VYK_atom (h : VYK P G tr o s K) : ∃ v, VYK P G tr o s (fun u => v = u) ∧ K v := by
 obtain ⟨dst, op, type, pos, after, guard⟩ := o
 cases op <;> simp only [VYK] at h ⊢ <;> try exact h.elim
 case move x =>
  split at h
  ·rename_i e; simp only [if_pos e]; exact ⟨_, rfl, h⟩
  ·rename_i e; simp only [if_neg e]; exact ⟨_, rfl, h⟩
 case assign x => exact ⟨_, rfl, h⟩
 case pick c a b =>
  split at h
  ·exact ⟨_, rfl, h⟩
  ·exact h.elim
 case build T parts => exact vbuild_atom h
 case buildSlice T len parts => exact vbuildSlice_atom h
 case load T x => exact vload_atom h
 case binOp op T x y yT => exact vbin_atom h
 case unOp op T x => exact vun_atom h
 case convert src dst x => exact vconv_atom h
 case lookup T x k ok => exact vlookup_atom h
 case range T x => exact vrange_atom h
 case entry x => exact ventry_atom h
 case makeFunc f a b => exact ⟨_, ⟨h.1, rfl⟩, h.2⟩
 case sliceToArrayPointer T x => exact vsap_atom h
 case nilCheck x =>
  split at h
  ·exact ⟨_, rfl, h⟩
  ·exact ⟨_, rfl, h⟩
  ·exact h.elim
 case slice T x lo hi mx => exact vslice_atom h
 case fieldAddr T x f => exact vfieldAddr_atom h
 case field T x f => exact vfield_atom h
 case indexAddr T x i => exact vindexAddr_atom h
 case index T x i => exact vindex_atom h
 case extract x i =>
  split at h
  ·split at h
   ·exact ⟨_, rfl, h⟩
   ·exact h.elim
  ·exact h.elim
 case call c =>
  obtain ⟨callee, args, ts⟩ := c
  cases callee with
  | value f => exact vcall_atom h
  | invoke r m => exact h.elim
  | builtin b =>
   cases b
   case append =>
    have h' : (if isGh tr dst then (if isHo tr dst then vhot P G s dst ts.toList args.toList K else vghost P G s dst ts.toList args.toList K) else vbuiltin P .append ts.toList (args.toList.map fun x => vw s (ev G s x)) K) := h
    show ∃ v, (if isGh tr dst then (if isHo tr dst then vhot P G s dst ts.toList args.toList (fun u => v = u) else vghost P G s dst ts.toList args.toList (fun u => v = u)) else vbuiltin P .append ts.toList (args.toList.map fun x => vw s (ev G s x)) (fun u => v = u)) ∧ K v
    by_cases hg : isGh tr dst = true
    ·rw [if_pos hg] at h'; simp only [if_pos hg]
     by_cases hg2 : isHo tr dst = true
     ·rw [if_pos hg2] at h'; simp only [if_pos hg2]; exact vhot_atom h'
     ·rw [if_neg hg2] at h'; simp only [if_neg hg2]; exact vghost_atom h'
    ·rw [if_neg hg] at h'; simp only [if_neg hg]; exact vbuiltin_atom h'
   all_goals exact vbuiltin_atom h
end
end Go.Vl
/- Values without memory: regions that draw their order: one order serves every order. -/
namespace Go.Vl
open Go Go.RowKit
section
variable {P : Program} {G : Gl} {tr : List Nat} {s : S} {o : Oper} {x y : V} {ops : Array Oper} {md : Region.Mode}
inductive Ef where
 | v (x : V)
 | al (cs : List V)
 | st (b k : Nat) (ds : List V)
 | gn (bx : Nat → List V) (nb : Nat) (x : V)
 | skip
def Ef.val (nb : Nat) : Ef → V
 | .v x => x
 | .al _ => .bp nb 0
 | .st _ _ _ => .sk
 | .gn _ _ x => x
 | .skip => .sk
def Ef.bx (nb : Nat) (bx : Nat → List V) : Ef → Nat → List V
 | .al cs => up bx nb cs
 | .st b k ds => up bx b (setV (bx b) k ds)
 | .gn bx' _ _ => bx'
 | _ => bx
def Ef.nb (nb : Nat) : Ef → Nat
 | .al _ => nb + 1
 | .gn _ nb' _ => nb'
 | _ => nb
def Ef.uses : Ef → Bool
 | .skip => false
 | _ => true
def useF (u : Bool) (t : Option Tmp) (fr : Nat → V) : Nat → V := match t with
 | some t => if u && (fr t).isOw then up fr t .un else fr
 | none => fr
def putF (d : Option Tmp) (x : V) (fr : Nat → V) : Nat → V := match d with
 | some d => up fr d x
 | none => fr
def Ef.run (tr : List Nat) (o : Oper) (s : S) (e : Ef) : S := ⟨putF o.dst (e.val s.nb) (useF e.uses (consT tr o) s.fr), e.bx s.nb s.bx, e.nb s.nb⟩
def VEf (P : Program) (G : Gl) (tr : List Nat) (o : Oper) (s : S) (e : Ef) : Prop :=
 match o.op with
 | .alloc T => match ti P T with
  | some { zero := some z, .. } => e = .al (z.map zeroV)
  | _ => False
 | .box _ x => match (ev G s x).bcells with
  | some cs => e = .al cs
  | none => False
 | .store T p x => declV tr (ptrT p) (ev G s p) = true ∧ match ti P T, ev G s p, (ev G s x).bcells with
  | some i, .bp b k, some cs => (b < s.nb ∧ cs.length = i.size ∧ k + i.size ≤ (s.bx b).length ∧ isMb (s.bx b) = false) ∧ e = .st b k cs
  | some i, .c (.ex (.pointer (some ⟨blk, j, none⟩))), _ => (∃ (b k len cap : Nat) (E : Option (TypeId × Nat)) (es : List (List C)) (r : Nat) (e' : List C) (c : C), (i.size = 1 ∧ b < s.nb ∧ isMb (s.bx b) = false ∧ (s.bx b)[k]? = some (V.hh (some (.slice (some ⟨blk, 0, none⟩) len cap)) E (es ++ [e'])) ∧
    (es.flatten.length + r = j ∧ r < e'.length) ∧ (ev G s x).asC = some c) ∧
   e = .gn (up s.bx b ((s.bx b).set k (.hh (some (.slice (some ⟨blk, 0, none⟩) len cap)) E (es ++ [e'.set r c])))) s.nb .sk) ∨ stoG s.bx s.nb i blk j (ev G s x) (fun bx => e = .gn bx s.nb .sk)
  | _, _, _ => False
 | .buildSlice T len parts => if isNew tr o.dst then ∃ bx nb x, e = .gn bx nb x ∧ vbuildSlice P T len (parts.toList.map fun (i, x) => (i, ev G s x)) (vnewE s.bx s.nb len len fun b n u => (bx = b ∧ nb = n) ∧ x = u)
  else ∃ v, e = .v v ∧ VYK P G tr o s fun u => v = u
 | .makeSlice T l c => ∃ bx nb x, e = .gn bx nb x ∧ vmake P T (ev G s l) (ev G s c) fun n m sz z => (up s.bx s.nb ((List.replicate m z).flatten.map .c) = bx ∧ s.nb + 1 = nb) ∧ V.ms s.nb 0 n m sz = x
 | .call { callee := .value f, args := args, .. } => if isMut tr o.dst then ∃ bx nb x, e = .gn bx nb x ∧ vcallE P G s.bx s.nb (ev G s f) (args.toList.map (ev G s)) (fun b n u => (bx = b ∧ nb = n) ∧ x = u) ∧ (isLc tr o.dst = true → nb = s.nb ∧ ∀ b, bx b = s.bx b ∨ (b < 100 ∧ tr.contains (500000 + o.dst.getD 0 * 100 + b) = true))
  else ∃ v, e = .v v ∧ VYK P G tr o s fun u => v = u
 | .load _ x => ∃ v, e = .v v ∧ declV tr o.dst (ev G s x) = true ∧ VYK P G tr o s fun u => v = u
 | .mapUpdate T m k x => ∃ bx, e = .gn bx s.nb .sk ∧ vmapSet P T ⟨fun _ => .un, s.bx, s.nb⟩ (ev G s m) (ev G s k) (ev G s x) fun s' => bx = s'.bx
 | .mapEntry T m k => ∃ bx v, e = .gn bx s.nb v ∧ vmapEntry P T ⟨fun _ => .un, s.bx, s.nb⟩ (ev G s m) (ev G s k) fun s' u => bx = s'.bx ∧ v = u
 | .entryStore _ m n x => ∃ bx, e = .gn bx s.nb .sk ∧ ventrySet ⟨fun _ => .un, s.bx, s.nb⟩ (ev G s m) (ev G s n) (ev G s x) fun s' => bx = s'.bx
 | .call { callee := .builtin .copy, args := args, argTypes := ts } => ∃ bx v, e = .gn bx s.nb v ∧ vcopy P ⟨fun _ => .un, s.bx, s.nb⟩ (fun s' u => bx = s'.bx ∧ v = u) ts.toList (args.toList.map (ev G s))
 | .call { callee := .builtin .append, args := args, argTypes := ts } => if isNew tr o.dst then False else if isRoom tr o.dst then ∃ bx v, e = .gn bx s.nb v ∧ vappRoom P ⟨fun _ => .un, s.bx, s.nb⟩ (fun s' u => bx = s'.bx ∧ v = u) ts.toList (args.toList.map (ev G s))
  else ∃ v, e = .v v ∧ VYK P G tr o s fun u => v = u
 | .call { callee := .builtin .clear, args := args, argTypes := ts } => ∃ bx, e = .gn bx s.nb .un ∧ vclear P ⟨fun _ => .un, s.bx, s.nb⟩ (fun s' => bx = s'.bx) ts.toList (args.toList.map (ev G s))
 | _ => ∃ v, e = .v v ∧ VYK P G tr o s fun u => v = u
theorem use_bx {t : Option Tmp} : (s.use t).bx = s.bx := by
 cases t with
 | none => rfl
 | some t => simp only [S.use]; split <;> rfl
theorem use_nb {t : Option Tmp} : (s.use t).nb = s.nb := by
 cases t with
 | none => rfl
 | some t => simp only [S.use]; split <;> rfl
theorem run_v (v : V) : (Ef.v v).run tr o s = s.after tr o v := by
 unfold Ef.run S.after S.use S.put useF putF
 cases consT tr o with
 | none => cases o.dst <;> rfl
 | some t => by_cases h : (s.fr t).isOw = true <;> cases o.dst <;> simp [h, Ef.uses, S.clr, Ef.val, Ef.bx, Ef.nb]
theorem run_al (cs : List V) : (Ef.al cs).run tr o s = (let s' := s.use (consT tr o); { s' with bx := up s'.bx s'.nb cs, nb := s'.nb + 1 } : S).put o.dst (.bp s.nb 0) := by
 unfold Ef.run S.use S.put useF putF
 cases consT tr o with
 | none => cases o.dst <;> rfl
 | some t => by_cases h : (s.fr t).isOw = true <;> cases o.dst <;> simp [h, Ef.uses, S.clr, Ef.val, Ef.bx, Ef.nb]
theorem run_st (b k : Nat) (ds : List V) : (Ef.st b k ds).run tr o s = (let s' := s.use (consT tr o); { s' with bx := up s'.bx b (setV (s'.bx b) k ds) } : S).put o.dst .sk := by
 unfold Ef.run S.use S.put useF putF
 cases consT tr o with
 | none => cases o.dst <;> rfl
 | some t => by_cases h : (s.fr t).isOw = true <;> cases o.dst <;> simp [h, Ef.uses, S.clr, Ef.val, Ef.bx, Ef.nb]
theorem run_gn (bx : Nat → List V) (nb : Nat) (x : V) : (Ef.gn bx nb x).run tr o s = (let s' := s.use (consT tr o); { s' with bx := bx, nb := nb } : S).put o.dst x := by
 unfold Ef.run S.use S.put useF putF
 cases consT tr o with
 | none => cases o.dst <;> rfl
 | some t => by_cases h : (s.fr t).isOw = true <;> cases o.dst <;> simp [h, Ef.uses, S.clr, Ef.val, Ef.bx, Ef.nb]
theorem vbuildSlice_of {T : TypeId} {len : Nat} {parts : List (Nat × V)} {v : V} {K : V → Prop} (h : vbuildSlice P T len parts (fun u => v = u)) (hk : ∀ u, v = u → K u) : vbuildSlice P T len parts K := by
 unfold vbuildSlice at h
 split at h
 ·rename_i e1
  split at h
  ·rename_i e2
   obtain ⟨h0, h⟩ := h
   split at h
   ·rename_i e3
    unfold vbuildSlice
    simp only [e1, e2, e3]
    exact ⟨h0, hk _ h⟩
   ·exact h.elim
  ·exact h.elim
 ·exact h.elim
theorem vcallE_of {bx : Nat → List V} {nb : Nat} {f : V} {l : List V} {K K' : (Nat → List V) → Nat → V → Prop} (h : vcallE P G bx nb f l K) (hk : ∀ b n u, K b n u → K' b n u) : vcallE P G bx nb f l K' := by
 unfold vcallE at h
 split at h
 ·rename_i e1
  unfold vcallE
  simp only [e1]
  obtain ⟨ρ, cargs, b0, r, b1, h1, h2, h3, h4, h5⟩ := h
  exact ⟨ρ, cargs, b0, r, b1, h1, h2, h3, h4, hk _ _ _ h5⟩
 ·exact h.elim
theorem vmake_of {T : TypeId} {l c : V} {K K' : Nat → Nat → Nat → List C → Prop} (h : vmake P T l c K) (hk : ∀ n m sz z, K n m sz z → K' n m sz z) : vmake P T l c K' := by
 unfold vmake at h
 split at h
 ·rename_i e1
  split at h
  ·rename_i e2
   unfold vmake
   simp only [e1, e2]
   exact ⟨h.1, hk _ _ _ _ h.2⟩
  ·exact h.elim
 ·exact h.elim
theorem run_skip : Ef.skip.run tr o s = s.put o.dst .sk := by
 unfold Ef.run S.put useF putF
 cases consT tr o <;> cases o.dst <;> simp [Ef.uses, Ef.val, Ef.bx, Ef.nb]
theorem VStep.ef {K : S → Prop} (hAN : isAN tr o = false) (h : VStep P G tr o s K) : ∃ e, e ≠ .skip ∧ VEf P G tr o s e ∧ K (e.run tr o s) := by
 have gen : VYK P G tr o s (fun v => K (s.after tr o v)) → (∀ e, VEf P G tr o s e ↔ ∃ v, e = .v v ∧ VYK P G tr o s fun u => v = u) → ∃ e, e ≠ .skip ∧ VEf P G tr o s e ∧ K (e.run tr o s) := fun h hV => by
  obtain ⟨v, h1, h2⟩ := VYK_atom h
  exact ⟨.v v, by simp, (hV _).2 ⟨v, rfl, h1⟩, by rw [run_v]; exact h2⟩
 unfold VStep at h
 split at h
 ·rename_i T hop
  split at h
  ·rename_i z _ _ hi
   refine ⟨.al (z.map zeroV), by simp, by unfold VEf; rw [hop]; simp only [hi], ?_⟩
   rw [run_al]
   have : consT tr o = none := by simp [consT, hop]
   rw [this]; exact h
  ·exact h.elim
 ·rename_i T X hop
  split at h
  ·rename_i cs hi
   refine ⟨.al cs, by simp, by unfold VEf; rw [hop]; simp only [hi], ?_⟩
   rw [run_al]; exact h
  ·exact h.elim
 ·rename_i T p X hop
  obtain ⟨hdec, h⟩ := h
  split at h
  ·rename_i i b k cs h1 h2 h3
   obtain ⟨h4, h⟩ := h
   refine ⟨.st b k cs, by simp, by unfold VEf; rw [hop]; simp only [h1, h2, h3]; rw [h2] at hdec; exact ⟨hdec, h4, trivial⟩, ?_⟩
   rw [run_st]; exact h
  ·rename_i i blk j h1 h2
   rcases h with h | ⟨b, k, len, cap, q, E, es, cs, h4, h⟩
   rotate_left
   ·refine ⟨.gn (up s.bx b ((s.bx b).set k (.gg (.slice (some ⟨blk, 0, none⟩) len cap) (some (E, i.size)) (es.set q cs)))) s.nb .sk, by simp, by unfold VEf; rw [hop]; simp only [h1, h2]; rw [h2] at hdec; exact ⟨hdec, .inr ⟨b, k, len, cap, q, E, es, cs, h4, rfl⟩⟩, ?_⟩
    rw [run_gn]
    have e : ∀ bx, ({ s.use (consT tr o) with bx := bx, nb := s.nb } : S) = { s.use (consT tr o) with bx := bx } := fun bx => by rw [← use_nb (s := s) (t := consT tr o)]
    show K (({ s.use (consT tr o) with bx := _, nb := s.nb } : S).put o.dst .sk)
    rw [e]
    exact h
   obtain ⟨b, k, len, cap, E, es, r, e', c, h4, h⟩ := h
   refine ⟨.gn (up s.bx b ((s.bx b).set k (.hh (some (.slice (some ⟨blk, 0, none⟩) len cap)) E (es ++ [e'.set r c])))) s.nb .sk, by simp, by unfold VEf; rw [hop]; simp only [h1, h2]; rw [h2] at hdec; exact ⟨hdec, .inl ⟨b, k, len, cap, E, es, r, e', c, h4, rfl⟩⟩, ?_⟩
   rw [run_gn]
   have h' : K (({ s.use (consT tr o) with bx := up (s.use (consT tr o)).bx b (((s.use (consT tr o)).bx b).set k (.hh (some (.slice (some ⟨blk, 0, none⟩) len cap)) E (es ++ [e'.set r c]))) } : S).put o.dst .sk) := h
   rw [use_bx] at h'
   have e : ({ s.use (consT tr o) with bx := up s.bx b ((s.bx b).set k (.hh (some (.slice (some ⟨blk, 0, none⟩) len cap)) E (es ++ [e'.set r c]))), nb := s.nb } : S) = { s.use (consT tr o) with bx := up s.bx b ((s.bx b).set k (.hh (some (.slice (some ⟨blk, 0, none⟩) len cap)) E (es ++ [e'.set r c]))) } := by rw [← use_nb (s := s) (t := consT tr o)]
   show K (({ s.use (consT tr o) with bx := up s.bx b ((s.bx b).set k (.hh (some (.slice (some ⟨blk, 0, none⟩) len cap)) E (es ++ [e'.set r c]))), nb := s.nb } : S).put o.dst .sk)
   rw [e]
   exact h'
  ·exact h.elim
 ·rename_i T len parts hop
  split at h
  ·rename_i hn
   obtain ⟨v, h1, h2⟩ := vbuildSlice_atom h
   obtain ⟨bx, nb, x, h3, h4⟩ := vnewE_atom h2
   refine ⟨.gn bx nb x, by simp, ?_, ?_⟩
   ·unfold VEf; rw [hop]; simp only [hn, if_true]
    refine ⟨bx, nb, x, rfl, ?_⟩
    refine vbuildSlice_of h1 fun u hu => ?_
    subst hu; exact h3
   ·rw [run_gn]
    have : consT tr o = none := by simp [consT, hop]
    rw [this]; exact h4
  ·rename_i hn
   have hb : isBs tr o.dst = false := by simpa [isAN, hop] using hAN
   simp only [hb, Bool.false_eq_true, if_false] at h
   refine gen h fun e => ?_
   unfold VEf; rw [hop]; simp only [if_neg hn]
 ·rename_i T l c hop
  obtain ⟨p, m, sz, z, h1, h2⟩ := vmake_atom h
  refine ⟨.gn (up s.bx s.nb ((List.replicate m z).flatten.map .c)) (s.nb + 1) (.ms s.nb 0 p m sz), by simp, ?_, ?_⟩
  ·unfold VEf; rw [hop]
   refine ⟨_, _, _, rfl, ?_⟩
   refine vmake_of h1 fun n' m' sz' z' hh => ?_
   obtain ⟨rfl, rfl, rfl, rfl⟩ := hh
   exact ⟨⟨rfl, rfl⟩, rfl⟩
  ·rw [run_gn]
   have : consT tr o = none := by simp [consT, hop]
   rw [this]; exact h2
 ·rename_i f args ts hop
  have hye : isYf tr o.dst = false ∧ isEf tr o.dst = false := by simpa [isAN, hop] using hAN
  have hy := hye.1
  have hef := hye.2
  simp only [hy, hef, Bool.false_eq_true, if_false] at h
  split at h
  ·rename_i hn
   obtain ⟨bx, nb, x, h3, h4⟩ := vcallE_atom h
   have h5 : (isLc tr o.dst = true → lcOk tr o.dst s ⟨s.fr, bx, nb⟩) ∧ K ((⟨s.fr, bx, nb⟩ : S).put o.dst x) := by
    by_cases hl : isLc tr o.dst = true
    ·rw [if_pos hl] at h4; exact ⟨fun _ => h4.1, h4.2⟩
    ·rw [if_neg hl] at h4; exact ⟨fun h => absurd h hl, h4⟩
   refine ⟨.gn bx nb x, by simp, ?_, ?_⟩
   ·unfold VEf; rw [hop]; simp only [hn, if_true]
    exact ⟨bx, nb, x, rfl, h3, h5.1⟩
   ·rw [run_gn]
    have : consT tr o = none := by simp [consT, hop]
    rw [this]; exact h5.2
  ·rename_i hn
   refine gen h fun e => ?_
   unfold VEf; rw [hop]; simp only [if_neg hn]
 ·rename_i args ts hop
  have hn : isNew tr o.dst = false := by simpa [isAN, hop] using hAN
  simp only [hn, Bool.false_eq_true, if_false] at h
  split at h
  ·rename_i hr
   have hu := vappRoom_use (tr := tr) hop h
   obtain ⟨bx, v, h1, h2⟩ := vappRoom_atom h
   refine ⟨.gn bx s.nb v, by simp, by unfold VEf; rw [hop]; simp only [hn, hr, Bool.false_eq_true, if_false, if_true]; exact ⟨bx, v, rfl, h1⟩, ?_⟩
   rw [run_gn, hu]; exact h2
  ·rename_i hr
   refine gen h fun e => ?_
   unfold VEf; rw [hop]; simp only [hn, Bool.false_eq_true, if_false, if_neg hr]
 ·rename_i args ts hop
  obtain ⟨bx, v, h1, h2⟩ := vcopy_atom h
  refine ⟨.gn bx s.nb v, by simp, by unfold VEf; rw [hop]; exact ⟨bx, v, rfl, h1⟩, ?_⟩
  have : consT tr o = none := by simp [consT, hop]
  rw [run_gn, this]; exact h2
 ·rename_i args ts hop
  obtain ⟨bx, h1, h2⟩ := vclear_atom h
  refine ⟨.gn bx s.nb .un, by simp, by unfold VEf; rw [hop]; exact ⟨bx, rfl, h1⟩, ?_⟩
  have : consT tr o = none := by simp [consT, hop]
  rw [run_gn, this]; exact h2
 ·rename_i args ts hop
  have hn : isMl tr o.dst = false := by simpa [isAN, hop] using hAN
  simp only [hn, Bool.false_eq_true, if_false] at h
  refine gen h fun e => ?_
  unfold VEf; rw [hop]
 ·rename_i src dst X hop
  have hn : isNew tr o.dst = false := by simpa [isAN, hop] using hAN
  simp only [hn, Bool.false_eq_true, if_false] at h
  refine gen h fun e => ?_
  unfold VEf; rw [hop]
 ·rename_i op T X Y yT hop
  have hn : isNilOp Y = false := by simpa [isAN, hop] using hAN
  simp only [hn, Bool.false_eq_true, if_false] at h
  refine gen h fun e => ?_
  unfold VEf; rw [hop]
 ·rename_i T X hop
  have hn : isZ tr o.dst = false := by simpa [isAN, hop] using hAN
  simp only [hn, Bool.false_eq_true, if_false] at h
  obtain ⟨hdec, h⟩ := h
  obtain ⟨v, h1, h2⟩ := VYK_atom h
  exact ⟨.v v, by simp, by unfold VEf; rw [hop]; exact ⟨v, rfl, hdec, h1⟩, by rw [run_v]; exact h2⟩
 ·rename_i T parts hop
  have hn : isZ tr o.dst = false := by simpa [isAN, hop] using hAN
  simp only [hn, Bool.false_eq_true, if_false] at h
  refine gen h fun e => ?_
  unfold VEf; rw [hop]
 ·rename_i hop; simp [isAN, hop] at hAN
 ·rename_i T m k X hop
  obtain ⟨bx, h1, h2⟩ := vmapSet_atom h
  refine ⟨.gn bx s.nb .sk, by simp, by unfold VEf; rw [hop]; exact ⟨bx, rfl, h1⟩, ?_⟩
  have : consT tr o = none := by simp [consT, hop]
  rw [run_gn, this]; exact h2
 ·rename_i T m k hop
  obtain ⟨bx, v, h1, h2⟩ := vmapEntry_atom h
  refine ⟨.gn bx s.nb v, by simp, by unfold VEf; rw [hop]; exact ⟨bx, v, rfl, h1⟩, ?_⟩
  have : consT tr o = none := by simp [consT, hop]
  rw [run_gn, this]; exact h2
 ·rename_i T m k X hop
  obtain ⟨bx, h1, h2⟩ := ventrySet_atom h
  refine ⟨.gn bx s.nb .sk, by simp, by unfold VEf; rw [hop]; exact ⟨bx, rfl, h1⟩, ?_⟩
  have : consT tr o = none := by simp [consT, hop]
  rw [run_gn, this]; exact h2
 ·rename_i hop; simp [isAN, hop] at hAN
 ·rename_i hop; simp [isAN, hop] at hAN
 ·rename_i n1 n2 n3 n4 n5 n6 n7 n8 n9 n10 n11 n12 n13 n14 n15 n16 n17 n18 n19 n20
  refine gen h fun e => ?_
  unfold VEf
  split
  ·rename_i hop; exact absurd hop (n1 _)
  ·rename_i hop; exact absurd hop (n2 _ _)
  ·rename_i hop; exact absurd hop (n3 _ _ _)
  ·rename_i hop; exact absurd hop (n4 _ _ _)
  ·rename_i hop; exact absurd hop (n5 _ _ _)
  ·rename_i hop; exact absurd hop (n6 _ _ _)
  ·rename_i hop; exact absurd hop (n13 _ _)
  ·rename_i hop; exact absurd hop (n16 _ _ _ _)
  ·rename_i hop; exact absurd hop (n17 _ _ _)
  ·rename_i hop; exact absurd hop (n18 _ _ _ _)
  ·rename_i hop; exact absurd hop (n8 _ _)
  ·rename_i hop; exact absurd hop (n7 _ _)
  ·rename_i hop; exact absurd hop (n9 _ _)
  ·exact Iff.rfl
variable {n : Nat} {I0 : Ft} {M : Mx} {w0 : World} {I : Ft} {β : Nat → Option Nat} {ob : Loc → Option Nat} {a : Act} {w : World} {next : Act → World → Prop} {Q : Exit → Act → World → Prop}
theorem VEf_sound {e : Ef} (hst : St G n I0 M w0 I β ob s a w) (hd : ∀ d, o.dst = some d → d < n) (h : VEf P G tr o s e)
  (hk : ∀ a' w', SE G n I0 M w0 (e.run tr o s) a' w' → next a' w') : o.wp P a w next Q := by
 have viaStep : isYo tr o = false → VStep P G tr o s (fun s' => e.run tr o s = s') → o.wp P a w next Q := fun hy h =>
  VStep_sound (tr := tr) hst hd hy h (fun a' w' s' hs hse => hk a' w' (by rw [hs]; exact hse))
 unfold VEf at h
 split at h
 ·rename_i T hop
  split at h
  ·rename_i z _ _ hi
   subst h
   refine viaStep (by simp [isYo, hop]) ?_
   unfold VStep
   rw [hop]
   simp only [hi]
   rw [run_al]
   have : consT tr o = none := by simp [consT, hop]
   rw [this]; rfl
  ·exact h.elim
 ·rename_i T X hop
  split at h
  ·rename_i cs hi
   subst h
   refine viaStep (by simp [isYo, hop]) ?_
   unfold VStep
   rw [hop]
   simp only [hi]
   rw [run_al]
  ·exact h.elim
 ·rename_i T p X hop
  obtain ⟨hdec, h⟩ := h
  split at h
  ·rename_i i b k cs h1 h2 h3
   obtain ⟨h4, rfl⟩ := h
   refine viaStep (by simp [isYo, hop]) ?_
   unfold VStep
   rw [hop]
   simp only [h1, h2, h3]
   rw [run_st]
   rw [h2] at hdec
   exact ⟨hdec, h4, rfl⟩
  ·rename_i i blk j h1 h2
   rcases h with h | ⟨b, k, len, cap, q, E, es, cs, h4, rfl⟩
   rotate_left
   ·refine viaStep (by simp [isYo, hop]) ?_
    unfold VStep
    rw [hop]
    simp only [h1, h2]
    rw [run_gn]
    rw [h2] at hdec
    refine ⟨hdec, .inr ⟨b, k, len, cap, q, E, es, cs, h4, ?_⟩⟩
    have e : ∀ bx, ({ s.use (consT tr o) with bx := bx, nb := s.nb } : S) = { s.use (consT tr o) with bx := bx } := fun bx => by rw [← use_nb (s := s) (t := consT tr o)]
    show ({ s.use (consT tr o) with bx := _, nb := s.nb } : S).put o.dst .sk = _
    rw [e]
   obtain ⟨b, k, len, cap, E, es, r, e', c, h4, rfl⟩ := h
   refine viaStep (by simp [isYo, hop]) ?_
   unfold VStep
   rw [hop]
   simp only [h1, h2]
   rw [run_gn]
   rw [h2] at hdec
   refine ⟨hdec, .inl ⟨b, k, len, cap, E, es, r, e', c, h4, ?_⟩⟩
   have e : ({ s.use (consT tr o) with bx := up s.bx b ((s.bx b).set k (.hh (some (.slice (some ⟨blk, 0, none⟩) len cap)) E (es ++ [e'.set r c]))), nb := s.nb } : S) = { s.use (consT tr o) with bx := up s.bx b ((s.bx b).set k (.hh (some (.slice (some ⟨blk, 0, none⟩) len cap)) E (es ++ [e'.set r c]))) } := by rw [← use_nb (s := s) (t := consT tr o)]
   show ({ s.use (consT tr o) with bx := up s.bx b ((s.bx b).set k (.hh (some (.slice (some ⟨blk, 0, none⟩) len cap)) E (es ++ [e'.set r c]))), nb := s.nb } : S).put o.dst .sk = ({ s.use (consT tr o) with bx := up (s.use (consT tr o)).bx b (((s.use (consT tr o)).bx b).set k (.hh (some (.slice (some ⟨blk, 0, none⟩) len cap)) E (es ++ [e'.set r c]))) } : S).put o.dst .sk
   rw [e, use_bx]
  ·exact h.elim
 ·rename_i T len parts hop
  split at h
  ·rename_i hn
   obtain ⟨bx, nb, x, rfl, h⟩ := h
   refine viaStep (by simp [isYo, hop]) ?_
   unfold VStep
   rw [hop]
   simp only [hn, if_true]
   have : consT tr o = none := by simp [consT, hop]
   rw [run_gn, this]
   obtain ⟨v, h1, h2⟩ := vbuildSlice_atom h
   refine vbuildSlice_of h1 fun u hu => ?_
   subst hu
   obtain ⟨b, n, y, h3, ⟨rfl, rfl⟩, rfl⟩ := vnewE_atom h2
   unfold vnew
   unfold vnewE at h3 ⊢
   split at h3
   ·obtain ⟨⟨rfl, rfl⟩, rfl⟩ := h3; rfl
   ·exact h3.elim
  ·rename_i hn
   obtain ⟨v, rfl, h⟩ := h
   exact VYK_sound (tr := tr) hst hd h (fun a' w' x hx hse => hk a' w' (by rw [run_v]; subst hx; exact hse))
 ·rename_i T l c hop
  obtain ⟨bx, nb, x, rfl, h⟩ := h
  refine viaStep (by simp [isYo, hop]) ?_
  unfold VStep
  rw [hop]
  have : consT tr o = none := by simp [consT, hop]
  rw [run_gn, this]
  refine vmake_of h fun n m sz z hh => ?_
  obtain ⟨⟨rfl, rfl⟩, rfl⟩ := hh
  rfl
 ·rename_i f args ts hop
  split at h
  ·rename_i hn
   obtain ⟨bx, nb, x, rfl, h, hlc⟩ := h
   have hc : consT tr o = none := by simp [consT, hop]
   refine vcallB_sound (K := fun s' u => s'.put o.dst u = (Ef.gn bx nb x).run tr o s) hop hst hd ?_ (fun a' w' s' u hK hse => hk a' w' (by rw [← hK]; exact hse))
   unfold vcallB
   refine vcallE_of h fun b n u hh => ?_
   obtain ⟨⟨rfl, rfl⟩, rfl⟩ := hh
   rw [run_gn, hc]; rfl
  ·rename_i hn
   obtain ⟨v, rfl, h⟩ := h
   exact VYK_sound (tr := tr) hst hd h (fun a' w' x hx hse => hk a' w' (by rw [run_v]; subst hx; exact hse))
 ·obtain ⟨v, rfl, _, h⟩ := h
  exact VYK_sound (tr := tr) hst hd h (fun a' w' x hx hse => hk a' w' (by rw [run_v]; subst hx; exact hse))
 ·rename_i T m k X hop
  obtain ⟨bx, rfl, h⟩ := h
  refine viaStep (by simp [isYo, hop]) ?_
  have : consT tr o = none := by simp [consT, hop]
  rw [run_gn, this]
  unfold VStep
  rw [hop]
  exact vmapSet_K (vmapSet_back h) fun s' e => by rw [← e]; rfl
 ·rename_i T m k hop
  obtain ⟨bx, v, rfl, h⟩ := h
  refine viaStep (by simp [isYo, hop]) ?_
  have : consT tr o = none := by simp [consT, hop]
  rw [run_gn, this]
  unfold VStep
  rw [hop]
  exact vmapEntry_K (vmapEntry_back h) fun s' u e => by rw [← e.1, ← e.2]; rfl
 ·rename_i T m k X hop
  obtain ⟨bx, rfl, h⟩ := h
  refine viaStep (by simp [isYo, hop]) ?_
  have : consT tr o = none := by simp [consT, hop]
  rw [run_gn, this]
  unfold VStep
  rw [hop]
  exact ventrySet_K (ventrySet_back h) fun s' e => by rw [← e]; rfl
 ·rename_i args ts hop
  obtain ⟨bx, v, rfl, h⟩ := h
  refine viaStep (by simp [isYo, hop]) ?_
  have : consT tr o = none := by simp [consT, hop]
  rw [run_gn, this]
  unfold VStep
  rw [hop]
  exact vcopy_K (vcopy_back h) fun s' u e => by rw [← e.1, ← e.2]; rfl
 ·rename_i args ts hop
  split at h
  ·exact h.elim
  rename_i hn
  split at h
  ·rename_i hr
   obtain ⟨bx, v, rfl, h⟩ := h
   refine viaStep (by simp [isYo, hop]) ?_
   rw [run_gn, vappRoom_use (tr := tr) hop h]
   unfold VStep
   rw [hop]
   simp only [hn, hr, if_true, if_false, Bool.false_eq_true]
   refine vappRoom_K (vappRoom_back h) (fun s' u e => ?_)
   rw [← e.1, ← e.2]
  ·obtain ⟨v, rfl, h⟩ := h
   exact VYK_sound (tr := tr) hst hd h (fun a' w' x hx hse => hk a' w' (by rw [run_v]; subst hx; exact hse))
 ·rename_i args ts hop
  obtain ⟨bx, rfl, h⟩ := h
  refine viaStep (by simp [isYo, hop]) ?_
  have : consT tr o = none := by simp [consT, hop]
  rw [run_gn, this]
  unfold VStep
  rw [hop]
  exact vclear_K (vclear_back h) fun s' e => by rw [← e]; rfl
 ·obtain ⟨v, rfl, h⟩ := h
  exact VYK_sound (tr := tr) hst hd h (fun a' w' x hx hse => hk a' w' (by rw [run_v]; subst hx; exact hse))
def opMem (tr : List Nat) (o : Oper) : Nat :=
 match o.op with
 | .call { callee := .builtin .copy, .. } => 2
 | .call { callee := .builtin .clear, .. } => 2
 | .load _ _ | .convert _ _ _ | .lookup _ _ _ _ | .range _ _ | .entry _ => 1
 | .call { callee := .builtin .append, .. } => if isRoom tr o.dst then 2 else 1
 | .call { callee := .value _, .. } => if isMut tr o.dst then 2 else 1
 | .buildSlice _ _ _ => if isNew tr o.dst then 2 else 0
 | .alloc _ | .box _ _ | .store _ _ _ | .makeSlice _ _ _ | .mapUpdate _ _ _ _ | .mapEntry _ _ _ | .entryStore _ _ _ _ => 2
 | _ => 0
theorem ev_congr {s' : S} {x : Operand} (h : ∀ t, x = .tmp t → s.fr t = s'.fr t) : ev G s x = ev G s' x := by
 cases x <;> simp only [ev]
 exact h _ rfl
theorem imm_mem {s' : S} (hb : s.bx = s'.bx) (hn : s.nb = s'.nb) : imm s = imm s' := by
 obtain ⟨fr, bx, nb⟩ := s
 obtain ⟨fr', bx', nb'⟩ := s'
 simp only at hb hn
 subst hb; subst hn
 funext x
 cases x <;> rfl
theorem vw_mem {s' : S} (hb : s.bx = s'.bx) (hn : s.nb = s'.nb) : vw s = vw s' := by
 obtain ⟨fr, bx, nb⟩ := s
 obtain ⟨fr', bx', nb'⟩ := s'
 simp only at hb hn
 subst hb; subst hn
 funext x
 cases x <;> rfl
theorem VYK_congr {s' : S} {K : V → Prop} (hdq : ∀ d, o.dst = some d → s.fr d = s'.fr d) (he : ∀ x ∈ o.op.operands, ev G s x = ev G s' x) (hm : opMem tr o ≠ 0 → s.bx = s'.bx ∧ s.nb = s'.nb) (h : VYK P G tr o s K) : VYK P G tr o s' K := by
 have marr : ∀ l : Array Operand, (∀ x ∈ l, ev G s x = ev G s' x) → l.toList.map (ev G s) = l.toList.map (ev G s') := fun l hl => List.map_congr_left fun x hx => hl x (by simpa using hx)
 have mopt : ∀ l : Option Operand, (∀ x, l = some x → ev G s x = ev G s' x) → l.map (ev G s) = l.map (ev G s') := fun l hl => by cases l with
  | none => rfl
  | some x => simp only [Option.map_some, hl x rfl]
 obtain ⟨dst, op, type, pos, after, guard⟩ := o
 cases op <;> simp only [VYK] at h ⊢ <;> try exact h
 case move x => rw [← he x (by simp [Op.operands])]; exact h
 case assign x => rw [← he x (by simp [Op.operands])]; exact h
 case pick c a b => rw [← he c (by simp [Op.operands]), ← he a (by simp [Op.operands]), ← he b (by simp [Op.operands])]; exact h
 case build T parts =>
  have : (parts.toList.map fun (i, x) => (i, ev G s' x)) = parts.toList.map fun (i, x) => (i, ev G s x) := List.map_congr_left fun p hp => by
   obtain ⟨i, x⟩ := p
   simp only [he x (by simp only [Op.operands, List.mem_toArray, List.mem_map]; exact ⟨(i, x), hp, rfl⟩)]
  rw [this]; exact h
 case buildSlice T len parts =>
  have : (parts.toList.map fun (i, x) => (i, ev G s' x)) = parts.toList.map fun (i, x) => (i, ev G s x) := List.map_congr_left fun p hp => by
   obtain ⟨i, x⟩ := p
   simp only [he x (by simp only [Op.operands, List.mem_toArray, List.mem_map]; exact ⟨(i, x), hp, rfl⟩)]
  rw [this]; exact h
 case load T x =>
  obtain ⟨h1, h2⟩ := hm (by simp [opMem])
  rw [← he x (by simp [Op.operands])]
  unfold vload at h ⊢
  rw [← h1, ← h2]; exact h
 case lookup T x k ok =>
  obtain ⟨h1, h2⟩ := hm (by simp [opMem])
  rw [← he x (by simp [Op.operands]), ← he k (by simp [Op.operands])]
  unfold vlookup vmapAt at h ⊢
  rw [← h1, ← h2]; exact h
 case range T x =>
  obtain ⟨h1, h2⟩ := hm (by simp [opMem])
  rw [← he x (by simp [Op.operands])]
  unfold vrange at h ⊢
  rw [← h1, ← h2]; exact h
 case entry x =>
  obtain ⟨h1, h2⟩ := hm (by simp [opMem])
  rw [← he x (by simp [Op.operands])]
  unfold ventry at h ⊢
  rw [← h1, ← h2]; exact h
 case binOp op T x y yT => rw [← he x (by simp [Op.operands]), ← he y (by simp [Op.operands])]; exact h
 case unOp op T x => rw [← he x (by simp [Op.operands])]; exact h
 case convert src dst x =>
  obtain ⟨h1, h2⟩ := hm (by simp [opMem])
  rw [← he x (by simp [Op.operands]), ← vw_mem h1 h2]; exact h
 case makeFunc f a b => rw [← marr a fun x hx => he x (by simp [Op.operands, hx]), ← marr b fun x hx => he x (by simp [Op.operands, hx])]; exact h
 case sliceToArrayPointer T x => rw [← he x (by simp [Op.operands])]; exact h
 case nilCheck x => rw [← he x (by simp [Op.operands])]; exact h
 case slice T x lo hi mx =>
  rw [← he x (by simp [Op.operands]), ← mopt lo fun x hx => he x (by simp [Op.operands, hx]), ← mopt hi fun x hx => he x (by simp [Op.operands, hx]), ← mopt mx fun x hx => he x (by simp [Op.operands, hx])]; exact h
 case fieldAddr T x f => rw [← he x (by simp [Op.operands])]; exact h
 case field T x f => rw [← he x (by simp [Op.operands])]; exact h
 case indexAddr T x i => rw [← he x (by simp [Op.operands]), ← he i (by simp [Op.operands])]; exact h
 case index T x i => rw [← he x (by simp [Op.operands]), ← he i (by simp [Op.operands])]; exact h
 case extract x i => rw [← he x (by simp [Op.operands])]; exact h
 case call c =>
  obtain ⟨callee, args, ts⟩ := c
  cases callee with
  | value f =>
   simp only at h ⊢
   obtain ⟨h1, h2⟩ := hm (by simp only [opMem]; split <;> simp)
   rw [← he f (by simp [Op.operands, Call.operands]), ← marr args fun x hx => he x (by simp [Op.operands, Call.operands, hx])]
   unfold vcall at h ⊢
   rw [← imm_mem h1 h2]; exact h
  | invoke r m => exact h
  | builtin b =>
   cases b
   case append =>
    simp only at h ⊢
    obtain ⟨h1, h2⟩ := hm (by simp only [opMem]; split <;> simp)
    have : (args.toList.map fun x => vw s' (ev G s' x)) = args.toList.map fun x => vw s (ev G s x) := List.map_congr_left fun x hx => by
     rw [vw_mem h1 h2, he x (by simp only [Op.operands, Call.operands]; simpa using hx)]
    rw [this]
    split at h
    ·rename_i hg
     rw [if_pos hg]
     split at h
     ·rename_i hg2
      rw [if_pos hg2]
      unfold vhot at h ⊢
      split at h
      ·rename_i t y d ha
       have ht : s.fr t = s'.fr t := by
        have := he (.tmp t) (by simp only [Op.operands, Call.operands]; rw [Array.empty_append]; exact Array.mem_toList_iff.1 (by rw [ha]; simp))
        simpa [ev] using this
       have hy : ev G s y = ev G s' y := he y (by simp only [Op.operands, Call.operands]; rw [Array.empty_append]; exact Array.mem_toList_iff.1 (by rw [ha]; simp))
       rw [← ht, ← hdq d rfl, ← hy, ← vw_mem h1 h2]
       exact h
      ·exact h.elim
     ·rename_i hg2
      rw [if_neg hg2]
      unfold vghost at h ⊢
      split at h
      ·rename_i t y d ha
       have ht : s.fr t = s'.fr t := by
        have := he (.tmp t) (by simp only [Op.operands, Call.operands]; rw [Array.empty_append]; exact Array.mem_toList_iff.1 (by rw [ha]; simp))
        simpa [ev] using this
       have hy : ev G s y = ev G s' y := he y (by simp only [Op.operands, Call.operands]; rw [Array.empty_append]; exact Array.mem_toList_iff.1 (by rw [ha]; simp))
       rw [← ht, ← hdq d rfl, ← hy, ← vw_mem h1 h2]
       exact h
      ·exact h.elim
    ·rename_i hg
     rw [if_neg hg]; exact h
   all_goals
    simp only at h ⊢
    rw [← marr args fun x hx => he x (by simp [Op.operands, Call.operands, hx])]; exact h
theorem VEf_congr {s' : S} {e : Ef} (hdq : ∀ d, o.dst = some d → s.fr d = s'.fr d) (he : ∀ x ∈ o.op.operands, ev G s x = ev G s' x) (hm : opMem tr o ≠ 0 → s.bx = s'.bx ∧ s.nb = s'.nb) (h : VEf P G tr o s e) : VEf P G tr o s' e := by
 unfold VEf at h ⊢
 split at h
 ·exact h
 ·rename_i T X hop
  rw [← he X (by rw [hop]; simp [Op.operands])]; exact h
 ·rename_i T p X hop
  obtain ⟨h1, h2⟩ := hm (by simp [opMem, hop])
  rw [← he p (by rw [hop]; simp [Op.operands]), ← he X (by rw [hop]; simp [Op.operands]), ← h1, ← h2]; exact h
 ·rename_i T len parts hop
  have : (parts.toList.map fun (i, x) => (i, ev G s' x)) = parts.toList.map fun (i, x) => (i, ev G s x) := List.map_congr_left fun p hp => by
   obtain ⟨i, x⟩ := p
   simp only [he x (by rw [hop]; simp only [Op.operands, List.mem_toArray, List.mem_map]; exact ⟨(i, x), hp, rfl⟩)]
  split at h
  ·rename_i hn
   rw [if_pos hn]
   obtain ⟨h1, h2⟩ := hm (by simp [opMem, hop, hn])
   rw [this, ← h1, ← h2]; exact h
  ·rename_i hn
   rw [if_neg hn]
   obtain ⟨v, h1, h2⟩ := h
   exact ⟨v, h1, VYK_congr hdq he hm h2⟩
 ·rename_i T l c hop
  obtain ⟨h1, h2⟩ := hm (by simp [opMem, hop])
  rw [← he l (by rw [hop]; simp [Op.operands]), ← he c (by rw [hop]; simp [Op.operands]), ← h1, ← h2]; exact h
 ·rename_i f args ts hop
  split at h
  ·rename_i hn
   rw [if_pos hn]
   obtain ⟨h1, h2⟩ := hm (by simp [opMem, hop, hn])
   have : args.toList.map (ev G s) = args.toList.map (ev G s') := List.map_congr_left fun x hx => he x (by rw [hop]; simp only [Op.operands, Call.operands]; simp at hx; simp [hx])
   rw [← he f (by rw [hop]; simp [Op.operands, Call.operands]), ← this, ← h1, ← h2]; exact h
  ·rename_i hn
   rw [if_neg hn]
   obtain ⟨v, h1, h2⟩ := h
   exact ⟨v, h1, VYK_congr hdq he hm h2⟩
 ·rename_i T X hop
  obtain ⟨v, h1, hdec, h2⟩ := h
  exact ⟨v, h1, by rw [← he X (by rw [hop]; simp [Op.operands])]; exact hdec, VYK_congr hdq he hm h2⟩
 ·rename_i T m k X hop
  obtain ⟨h1, h2⟩ := hm (by simp [opMem, hop])
  rw [← he m (by rw [hop]; simp [Op.operands]), ← he k (by rw [hop]; simp [Op.operands]), ← he X (by rw [hop]; simp [Op.operands]), ← h1, ← h2]; exact h
 ·rename_i T m k hop
  obtain ⟨h1, h2⟩ := hm (by simp [opMem, hop])
  rw [← he m (by rw [hop]; simp [Op.operands]), ← he k (by rw [hop]; simp [Op.operands]), ← h1, ← h2]; exact h
 ·rename_i T m k X hop
  obtain ⟨h1, h2⟩ := hm (by simp [opMem, hop])
  rw [← he m (by rw [hop]; simp [Op.operands]), ← he k (by rw [hop]; simp [Op.operands]), ← he X (by rw [hop]; simp [Op.operands]), ← h1, ← h2]; exact h
 ·rename_i args ts hop
  obtain ⟨h1, h2⟩ := hm (by simp [opMem, hop])
  have : args.toList.map (ev G s) = args.toList.map (ev G s') := List.map_congr_left fun x hx => he x (by rw [hop]; simp only [Op.operands, Call.operands]; simpa using hx)
  rw [← this, ← h1, ← h2]; exact h
 ·rename_i args ts hop
  split at h
  ·exact h.elim
  rename_i hn
  rw [if_neg hn]
  split at h
  ·rename_i hr
   rw [if_pos hr]
   obtain ⟨h1, h2⟩ := hm (by simp [opMem, hop, hr])
   have : args.toList.map (ev G s) = args.toList.map (ev G s') := List.map_congr_left fun x hx => he x (by rw [hop]; simp only [Op.operands, Call.operands]; simpa using hx)
   rw [← this, ← h1, ← h2]; exact h
  ·rename_i hr
   rw [if_neg hr]
   obtain ⟨v, h1, h2⟩ := h
   exact ⟨v, h1, VYK_congr hdq he hm h2⟩
 ·rename_i args ts hop
  obtain ⟨h1, h2⟩ := hm (by simp [opMem, hop])
  have : args.toList.map (ev G s) = args.toList.map (ev G s') := List.map_congr_left fun x hx => he x (by rw [hop]; simp only [Op.operands, Call.operands]; simpa using hx)
  rw [← this, ← h1, ← h2]; exact h
 ·obtain ⟨v, h1, h2⟩ := h
  exact ⟨v, h1, VYK_congr hdq he hm h2⟩
def gval (ops : Array Oper) (o : Oper) (s : S) : Option Bool :=
 match o.guard with
 | none => some true
 | some (j, want) => match (ops[j]?).bind (·.dst) with
  | some d => match s.fr d with
   | .c (.lit (.bool p)) => some (p == want)
   | .sk => some false
   | _ => none
  | none => none
def TEf (P : Program) (G : Gl) (tr : List Nat) (ops : Array Oper) (o : Oper) (s : S) (e : Ef) : Prop :=
 (gval ops o s = some true ∧ VEf P G tr o s e ∧ e ≠ .skip) ∨ (gval ops o s = some false ∧ e = .skip)
theorem TEf_of_guard {K : S → Prop} (hAN : isAN tr o = false) (h : vguard ops o s (fun s => VStep P G tr o s K) (fun s => K (s.put o.dst .sk))) : ∃ e, TEf P G tr ops o s e ∧ K (e.run tr o s) := by
 unfold vguard at h
 have yes : gval ops o s = some true → VStep P G tr o s K → ∃ e, TEf P G tr ops o s e ∧ K (e.run tr o s) := fun hg hv => by
  obtain ⟨e, h1, h2, h3⟩ := hv.ef hAN
  exact ⟨e, .inl ⟨hg, h2, h1⟩, h3⟩
 have no : gval ops o s = some false → K (s.put o.dst .sk) → ∃ e, TEf P G tr ops o s e ∧ K (e.run tr o s) := fun hg hv => ⟨.skip, .inr ⟨hg, rfl⟩, by rw [run_skip]; exact hv⟩
 split at h
 ·rename_i hg
  exact yes (by unfold gval; rw [hg]) h
 ·rename_i j want hg
  split at h
  ·rename_i d hd
   split at h
   ·rename_i p hp
    by_cases hpw : p = want
    ·subst hpw
     have := h.1 rfl
     rw [S.up_id hp] at this
     exact yes (by unfold gval; simp only [hg, hd, hp, beq_self_eq_true]) this
    ·have hpn : p = !want := by cases p <;> cases want <;> simp_all
     have := h.2 hpn
     rw [← hpn, S.up_id hp] at this
     exact no (by unfold gval; simp only [hg, hd, hp]; simpa using hpw) this
   ·rename_i hp
    exact no (by unfold gval; simp only [hg, hd, hp]) h
   ·exact h.elim
  ·exact h.elim
theorem gval_wanted (hst : St G n I0 M w0 I β ob s a w) {p : Bool} (h : gval ops o s = some p) : Region.wanted o (yielded ops a.tmps) = p := by
 unfold gval at h
 unfold Region.wanted
 split at h
 ·rename_i hg; rw [hg]; simpa using h
 ·rename_i j want hg
  rw [hg]
  split at h
  ·rename_i d hd
   split at h
   ·rename_i q hq
    simp only [yielded_bool hst hd hq]
    simp only [Option.some.injEq] at h
    rw [← h]; cases q <;> cases want <;> rfl
   ·rename_i hq
    simp only [yielded_sk hst hd hq]
    simp only [Option.some.injEq] at h
    rw [← h]; rfl
   ·cases h
  ·cases h
def vopI (P : Program) (G : Gl) (tr : List Nat) (ops : Array Oper) (i : Nat) (K : S → Prop) (s : S) : Prop :=
 match ops[i]? with
 | none => K s
 | some o => ∃ e, TEf P G tr ops o s e ∧ K (e.run tr o s)
def vAny (P : Program) (G : Gl) (tr : List Nat) (md : Region.Mode) (ops : Array Oper) (K : S → Prop) : Nat → Array Bool → S → Prop
 | 0, listed, s => Region.ready md ops listed = [] ∧ K s
 | fuel + 1, listed, s =>
  (Region.ready md ops listed = [] → K s) ∧
  ∀ i ∈ Region.ready md ops listed, vopI P G tr ops i (vAny P G tr md ops K fuel (listed.setIfInBounds i true)) s
theorem vAny_sound (hok : dstOk n ops = true) {K : S → Prop} (hK : ∀ a w s, K s → SE G n I0 M w0 s a w → Q .normal a w) : ∀ (fuel : Nat) (listed : Array Bool) (s : S) (a : Act) (w : World),
  vAny P G tr md ops K fuel listed s → SE G n I0 M w0 s a w → wpAny P md ops Q fuel listed a w
 | 0, _, _, _, _, h, hse => ⟨h.1, hK _ _ _ h.2 hse⟩
 | fuel + 1, _, s, a, w, h, hse => by
  refine ⟨fun h0 => hK _ _ _ (h.1 h0) hse, fun i hi => ?_⟩
  have hh := h.2 i hi
  unfold vopI at hh
  unfold wpOp
  split
  ·rename_i ho; simp only [ho] at hh; exact vAny_sound hok hK fuel _ s a w hh hse
  ·rename_i o ho
   simp only [ho] at hh
   obtain ⟨e, he, hh⟩ := hh
   have hmem : o ∈ ops.toList := by
    have := Array.mem_of_getElem? ho
    simpa using this
   obtain ⟨I, β, ob, hst⟩ := hse
   rcases he with ⟨hg, hv, _⟩ | ⟨hg, rfl⟩
   ·rw [if_pos (gval_wanted hst hg)]
    exact .inl (VEf_sound hst (dstOk_spec hok hmem) hv fun a' w' hse' => vAny_sound hok hK fuel _ _ a' w' hh hse')
   ·rw [gval_wanted hst hg]
    simp only [Bool.false_eq_true, if_false]
    rw [run_skip] at hh
    exact vAny_sound hok hK fuel _ _ _ w hh (SE.put hst (dstOk_spec hok hmem) (by simp only [LR]; exact .sk))
def wr (tr : List Nat) (o : Oper) : List Tmp := o.dst.toList ++ (consT tr o).toList
def lsApart (tr : List Nat) (x y : Oper) : Bool := match x.op, x.dst, y.op with
 | .load _ _, some d, .store _ (.tmp t) _ => tr.contains (200000 + d) && tr.contains (200000 + t) && (List.range 100).all fun b => !(tr.contains (300000 + d * 100 + b) && tr.contains (300000 + t * 100 + b))
 | .load _ _, some d, .call { callee := .value _, .. } => tr.contains (200000 + d) && (isMut tr y.dst && isLc tr y.dst) && (List.range 100).all fun b => !(tr.contains (300000 + d * 100 + b) && tr.contains (500000 + y.dst.getD 0 * 100 + b))
 | _, _, _ => false
def lkApart (x y : Oper) : Bool := match x.op, y.op with
 | .lookup T (.tmp m) (.tmp k) false, .mapEntry U (.tmp m') (.tmp k') => T == U && m == m' && k == k'
 | _, _ => false
def raApart (tr : List Nat) (x y : Oper) : Bool := opMem tr x == 1 && match y.op with
 | .alloc _ => true
 | .box _ _ => true
 | .buildSlice _ _ _ => isNew tr y.dst
 | _ => false
def apartV (tr : List Nat) (ops : Array Oper) (x y : Oper) : Bool :=
 ((wr tr x).all fun d => !(y.looksAt ops).contains d && !(wr tr y).contains d) && ((wr tr y).all fun d => !(x.looksAt ops).contains d) &&
 ((opMem tr x != 2 || opMem tr y == 0 || (lsApart tr y x || lkApart y x)) && (opMem tr y != 2 || opMem tr x == 0 || (lsApart tr x y || (lkApart x y || raApart tr x y))))
structure Apart (tr : List Nat) (ops : Array Oper) (x y : Oper) : Prop where
 xy : ∀ d ∈ wr tr x, d ∉ y.looksAt ops
 ww : ∀ d ∈ wr tr x, d ∉ wr tr y
 yx : ∀ d ∈ wr tr y, d ∉ x.looksAt ops
 mx : opMem tr x = 2 → opMem tr y = 0 ∨ lsApart tr y x = true ∨ lkApart y x = true
 my : opMem tr y = 2 → opMem tr x = 0 ∨ lsApart tr x y = true ∨ lkApart x y = true ∨ raApart tr x y = true
theorem apartV_spec {x y : Oper} (h : apartV tr ops x y = true) : Apart tr ops x y := by
 simp only [apartV, Bool.and_eq_true, List.all_eq_true, Bool.not_eq_true', List.contains_eq_mem, decide_eq_false_iff_not, Bool.or_eq_true, bne_iff_ne, beq_iff_eq] at h
 obtain ⟨⟨h1, h2⟩, h3, h4⟩ := h
 exact ⟨fun d hd => (h1 d hd).1, fun d hd => (h1 d hd).2, h2, fun h => by rcases h3 with (h3 | h3) | h3; exact absurd h h3; exact .inl h3; exact .inr h3,
  fun h => by rcases h4 with (h4 | h4) | h4; exact absurd h h4; exact .inl h4; exact .inr h4⟩
def slotF (tr : List Nat) (o : Oper) (u : Bool) (x : V) (fr : Nat → V) : Nat → V := putF o.dst x (useF u (consT tr o) fr)
theorem useF_apply (u : Bool) (c : Option Tmp) (fr : Nat → V) (t : Nat) : useF u c fr t = if c = some t ∧ u = true ∧ (fr t).isOw = true then .un else fr t := by
 unfold useF
 cases c with
 | none => simp
 | some q =>
  simp only
  by_cases hq : q = t
  ·subst hq
   by_cases h : u = true ∧ (fr q).isOw = true
   ·rw [if_pos (by simp [h.1, h.2]), up_same, if_pos ⟨rfl, h⟩]
   ·rw [if_neg (by simpa using h), if_neg (fun e => h e.2)]
  ·have : ¬ (some q = some t ∧ u = true ∧ (fr t).isOw = true) := fun e => hq (by simpa using e.1)
   rw [if_neg this]
   split
   ·rw [up_ne _ _ (Ne.symm hq)]
   ·rfl
theorem slotF_apply (u : Bool) (x : V) (fr : Nat → V) (t : Nat) : slotF tr o u x fr t = if o.dst = some t then x else if consT tr o = some t ∧ u = true ∧ (fr t).isOw = true then .un else fr t := by
 unfold slotF putF
 cases o.dst with
 | none => simpa using useF_apply u (consT tr o) fr t
 | some d =>
  simp only
  by_cases hd : d = t
  ·subst hd; simp
  ·rw [up_ne _ _ (Ne.symm hd), if_neg (by simpa using hd)]
   exact useF_apply u (consT tr o) fr t
theorem slotF_other {u : Bool} {x : V} {fr : Nat → V} {t : Nat} (h : t ∉ wr tr o) : slotF tr o u x fr t = fr t := by
 simp only [wr, List.mem_append, Option.mem_toList, not_or] at h
 rw [slotF_apply, if_neg h.1, if_neg (fun e => h.2 e.1)]
theorem slotF_comm {x y : Oper} (h : ∀ d ∈ wr tr x, d ∉ wr tr y) (u u' : Bool) (vx vy : V) (fr : Nat → V) :
  slotF tr y u' vy (slotF tr x u vx fr) = slotF tr x u vx (slotF tr y u' vy fr) := by
 funext t
 by_cases hx : t ∈ wr tr x
 ·rw [slotF_other (h t hx), slotF_apply, slotF_apply, slotF_other (h t hx)]
 ·have e1 : slotF tr x u vx fr t = fr t := slotF_other hx
  have e2 : slotF tr x u vx (slotF tr y u' vy fr) t = slotF tr y u' vy fr t := slotF_other hx
  rw [e2, slotF_apply (o := y), e1, slotF_apply (o := y)]
theorem run_eq (e : Ef) : e.run tr o s = ⟨slotF tr o e.uses (e.val s.nb) s.fr, e.bx s.nb s.bx, e.nb s.nb⟩ := rfl
theorem VEf_mem {e : Ef} (h : VEf P G tr o s e) (hm : opMem tr o ≠ 2) : ∃ v, e = .v v := by
 unfold VEf at h
 split at h
 ·rename_i hop; simp [opMem, hop] at hm
 ·rename_i hop; simp [opMem, hop] at hm
 ·rename_i hop; simp [opMem, hop] at hm
 ·rename_i hop
  split at h
  ·rename_i hn; simp [opMem, hop, hn] at hm
  ·obtain ⟨v, rfl, _⟩ := h; exact ⟨v, rfl⟩
 ·rename_i hop; simp [opMem, hop] at hm
 ·rename_i hop
  split at h
  ·rename_i hn; simp [opMem, hop, hn] at hm
  ·obtain ⟨v, rfl, _⟩ := h; exact ⟨v, rfl⟩
 ·obtain ⟨v, rfl, _⟩ := h; exact ⟨v, rfl⟩
 ·rename_i hop; simp [opMem, hop] at hm
 ·rename_i hop; simp [opMem, hop] at hm
 ·rename_i hop; simp [opMem, hop] at hm
 ·rename_i hop; simp [opMem, hop] at hm
 ·rename_i hop
  split at h
  ·exact h.elim
  split at h
  ·rename_i hr; simp [opMem, hop, hr] at hm
  ·obtain ⟨v, rfl, _⟩ := h; exact ⟨v, rfl⟩
 ·rename_i hop; simp [opMem, hop] at hm
 ·obtain ⟨v, rfl, _⟩ := h; exact ⟨v, rfl⟩
theorem TEf_mem {e : Ef} (h : TEf P G tr ops o s e) (hm : opMem tr o ≠ 2) : (∃ v, e = .v v) ∨ e = .skip := by
 rcases h with ⟨_, h, _⟩ | ⟨_, h⟩
 ·exact .inl (VEf_mem h hm)
 ·exact .inr h
theorem quiet_mem {e : Ef} (h : (∃ v, e = .v v) ∨ e = .skip) (bx : Nat → List V) (nb nb' : Nat) : e.bx nb bx = bx ∧ e.nb nb = nb ∧ e.val nb = e.val nb' := by
 rcases h with ⟨v, rfl⟩ | rfl <;> exact ⟨rfl, rfl, rfl⟩
theorem gval_congr {s' : S} (h : ∀ t ∈ o.looksAt ops, s.fr t = s'.fr t) : gval ops o s = gval ops o s' := by
 unfold gval
 split
 ·rfl
 ·rename_i j want hg
  split
  ·rename_i d hd
   have : d ∈ o.looksAt ops := by
    unfold Oper.looksAt
    rw [hg]
    simp only [List.mem_append, Option.mem_toList]
    exact .inr hd
   rw [h d this]
  ·rfl
theorem operand_looks {x : Operand} {t : Tmp} (hx : x ∈ o.op.operands) (ht : x = .tmp t) : t ∈ o.looksAt ops := by
 unfold Oper.looksAt
 simp only [List.mem_append, List.mem_filterMap]
 exact .inl ⟨x, by simpa using hx, by rw [ht]⟩
theorem TEf_congr {s' : S} {e : Ef} (hdq : ∀ d, o.dst = some d → s.fr d = s'.fr d) (hl : ∀ t ∈ o.looksAt ops, s.fr t = s'.fr t) (hm : opMem tr o ≠ 0 → s.bx = s'.bx ∧ s.nb = s'.nb) (h : TEf P G tr ops o s e) : TEf P G tr ops o s' e := by
 rcases h with ⟨h1, h2, h3⟩ | ⟨h1, h2⟩
 ·exact .inl ⟨by rw [← gval_congr hl]; exact h1, VEf_congr hdq (fun x hx => ev_congr fun t ht => hl t (operand_looks hx ht)) hm h2, h3⟩
 ·exact .inr ⟨by rw [← gval_congr hl]; exact h1, h2⟩
theorem lsApart_spec {x y : Oper} (h : lsApart tr x y = true) : ∃ T X d, x.op = .load T X ∧ x.dst = some d ∧ tr.contains (200000 + d) = true ∧
  ((∃ U t Y, y.op = .store U (.tmp t) Y ∧ tr.contains (200000 + t) = true ∧ ∀ b, b < 100 → tr.contains (300000 + d * 100 + b) = true → tr.contains (300000 + t * 100 + b) = true → False) ∨
   (∃ c f, y.op = .call c ∧ c.callee = .value f ∧ isMut tr y.dst = true ∧ isLc tr y.dst = true ∧ ∀ b, b < 100 → tr.contains (300000 + d * 100 + b) = true → tr.contains (500000 + y.dst.getD 0 * 100 + b) = true → False)) := by
 unfold lsApart at h
 split at h
 ·rename_i T X d U t Y h1 h2 h3
  simp only [Bool.and_eq_true, List.all_eq_true] at h
  refine ⟨T, X, d, h1, h2, h.1.1, .inl ⟨U, t, Y, h3, h.1.2, fun b hb q1 q2 => ?_⟩⟩
  have := h.2 b (List.mem_range.2 hb)
  rw [q1, q2] at this
  cases this
 ·rename_i T X d f args ts h1 h2 h3
  simp only [Bool.and_eq_true, List.all_eq_true] at h
  refine ⟨T, X, d, h1, h2, h.1.1, .inr ⟨_, f, h3, rfl, h.1.2.1, h.1.2.2, fun b hb q1 q2 => ?_⟩⟩
  have := h.2 b (List.mem_range.2 hb)
  rw [q1, q2] at this
  cases this
 ·cases h
theorem lsApart_mem {x y : Oper} (h : lsApart tr x y = true) : opMem tr x = 1 := by
 obtain ⟨T, X, d, h1, _⟩ := lsApart_spec h
 simp [opMem, h1]
theorem vload_bx {T : TypeId} {s' : S} {b k : Nat} {K : V → Prop} (hb : s'.bx b = s.bx b) (hn : s'.nb = s.nb) (h : vload P T s (.bp b k) K) : vload P T s' (.bp b k) K := by
 unfold vload at *
 cases hT : ti P T with
 | none => rw [hT] at h; exact h.elim
 | some i =>
  rw [hT] at h
  simp only at h ⊢
  rw [hb, hn]; exact h
theorem vload_other {T : TypeId} {s' : S} {K : V → Prop} (hx : ∀ b k, x ≠ .bp b k) (hex : ∀ v, x ≠ .c (.ex v)) (h : vload P T s x K) : vload P T s' x K := by
 unfold vload at *
 cases hT : ti P T with
 | none => rw [hT] at h; exact h.elim
 | some i =>
  rw [hT] at h
  cases x with
  | c c =>
   cases c with
   | ex v => exact absurd rfl (hex v)
   | _ => exact h
  | bp b k => exact absurd rfl (hx b k)
  | _ => exact h.elim
theorem ls_frame {x y : Oper} {f : Ef} (hls : lsApart tr x y = true) (hy : TEf P G tr ops y s f) : f.nb s.nb = s.nb ∧ ∀ d b, x.dst = some d → b < 100 → tr.contains (300000 + d * 100 + b) = true → f.bx s.nb s.bx b = s.bx b := by
 obtain ⟨T, X, d, hx1, hx2, hd, hcase⟩ := lsApart_spec hls
 rcases hy with ⟨_, hv, _⟩ | ⟨_, rfl⟩
 ·unfold VEf at hv
  rcases hcase with ⟨U, t, Y, hy1, ht, hno⟩ | ⟨c, g, hy1, hy2, hm, hl, hno⟩
  ·rw [hy1] at hv
   simp only at hv
   obtain ⟨hdec, hv⟩ := hv
   split at hv
   ·rename_i i b k cs h1 h2 h3
    obtain ⟨_, rfl⟩ := hv
    rw [h2] at hdec
    simp only [ptrT, declV, declB, ht, Bool.not_true, Bool.false_or, Bool.and_eq_true, decide_eq_true_eq] at hdec
    refine ⟨rfl, fun d' b' hd' hb' hc' => ?_⟩
    rw [hx2] at hd'; cases hd'
    have hne : b' ≠ b := by rintro rfl; exact hno b' hb' hc' hdec.2
    simp only [Ef.bx, up_ne _ _ hne]
   ·rename_i i blk j h1 h2
    rw [h2] at hdec
    simp only [ptrT, declV, ht, Bool.not_true] at hdec
    cases hdec
   ·exact hv.elim
  ·obtain ⟨callee, args, ts⟩ := c
   simp only at hy2; subst hy2
   rw [hy1] at hv
   simp only [hm, if_true] at hv
   obtain ⟨bx, nb, x', rfl, _, h2⟩ := hv
   obtain ⟨h3, h4⟩ := h2 hl
   refine ⟨h3, fun d' b' hd' hb' hc' => ?_⟩
   rw [hx2] at hd'; cases hd'
   rcases h4 b' with h | ⟨_, h⟩
   ·exact h
   ·exact (hno b' hb' hc' h).elim
 ·exact ⟨rfl, fun _ _ _ _ _ => rfl⟩
theorem TEf_ls {x y : Oper} {e : Ef} {s' : S} (hls : lsApart tr x y = true) (hl : ∀ t ∈ x.looksAt ops, s.fr t = s'.fr t)
  (hbx : ∀ d b, x.dst = some d → b < 100 → tr.contains (300000 + d * 100 + b) = true → s'.bx b = s.bx b) (hnb : s'.nb = s.nb) (h : TEf P G tr ops x s e) : TEf P G tr ops x s' e := by
 obtain ⟨T, X, d, hx1, hx2, hd, _⟩ := lsApart_spec hls
 rcases h with ⟨h1, h2, h3⟩ | ⟨h1, h2⟩
 ·refine .inl ⟨by rw [← gval_congr hl]; exact h1, ?_, h3⟩
  have hev : ev G s X = ev G s' X := ev_congr fun q hq => hl q (operand_looks (by rw [hx1]; simp [Op.operands]) hq)
  unfold VEf at h2 ⊢
  rw [hx1] at h2 ⊢
  simp only at h2 ⊢
  obtain ⟨v, he, hdec, hv⟩ := h2
  refine ⟨v, he, by rw [← hev]; exact hdec, ?_⟩
  obtain ⟨dst, op, type, pos, after, guard⟩ := x
  simp only at hx1 hx2 hdec hev hbx
  subst hx1; subst hx2
  simp only [VYK] at hv ⊢
  rw [← hev]
  rcases hcase : ev G s X with _ | _ | c | _ | _ | _ | ⟨b, k⟩ | _ | _ | _
  case bp =>
   rw [hcase] at hdec hv
   simp only [declV, declB, hd, Bool.not_true, Bool.false_or, Bool.and_eq_true, decide_eq_true_eq] at hdec
   exact vload_bx (hbx d b rfl hdec.1 hdec.2) hnb hv
  case c =>
   rw [hcase] at hdec hv
   refine vload_other (fun _ _ e => by cases e) (fun v e => ?_) hv
   cases e
   simp only [declV, hd, Bool.not_true] at hdec
   cases hdec
  all_goals
   rw [hcase] at hv
   exact vload_other (fun _ _ e => by cases e) (fun _ e => by cases e) hv
 ·exact .inr ⟨by rw [← gval_congr hl]; exact h1, h2⟩
theorem lkApart_spec {x y : Oper} (h : lkApart x y = true) : ∃ T m k, x.op = .lookup T (.tmp m) (.tmp k) false ∧ y.op = .mapEntry T (.tmp m) (.tmp k) := by
 unfold lkApart at h
 split at h
 ·rename_i T m k U m' k' h1 h2
  simp only [Bool.and_eq_true, beq_iff_eq] at h
  obtain ⟨⟨rfl, rfl⟩, rfl⟩ := h
  exact ⟨T, m, k, h1, h2⟩
 ·cases h
theorem lkApart_mem {x y : Oper} (h : lkApart x y = true) : opMem tr x = 1 ∧ opMem tr y = 2 := by
 obtain ⟨T, m, k, h1, h2⟩ := lkApart_spec h
 simp [opMem, h1, h2]
theorem keysOf_len {ag : Bool} : ∀ {r : List V} {l : List (List C)}, keysOf ag r = some l → r.length = 2 * l.length
 | [], l, h => by simp only [keysOf, Option.some.injEq] at h; subst h; rfl
 | [_], l, h => by simp [keysOf] at h
 | k :: v :: r, l, h => by
  unfold keysOf at h
  split at h
  ·rename_i q l' h1 h2
   simp only [Option.some.injEq] at h; subst h
   have := keysOf_len h2
   simp [this]; omega
  ·cases h
theorem keysOf_snoc {ag : Bool} {k v : V} {q : List C} (hk : k.kcs ag = some q) : ∀ {r : List V} {l : List (List C)}, keysOf ag r = some l → keysOf ag (r ++ [k, v]) = some (l ++ [q])
 | [], l, h => by simp only [keysOf, Option.some.injEq] at h; subst h; simp [keysOf, hk]
 | [_], l, h => by simp [keysOf] at h
 | k' :: v' :: r, l, h => by
  unfold keysOf at h
  split at h
  ·rename_i q' l' h1 h2
   simp only [Option.some.injEq] at h; subst h
   have := keysOf_snoc (v := v) hk h2
   simp only [List.cons_append, keysOf, h1, this]
  ·cases h
theorem findK_snoc {ks : List EK} {k : List C} (hl : k.length = ks.length) (hr : eqCs ks k k = some true) : ∀ {l : List (List C)} {i : Nat}, findK ks k l i = some none → findK ks k (l ++ [k]) i = some (some (i + l.length))
 | [], i, _ => by simp [findK, hl, hr]
 | k' :: l, i, h => by
  unfold findK at h
  split at h
  ·rename_i h1
   split at h
   ·cases h
   ·rename_i h2
    simp only [List.cons_append, findK, h1, if_true, h2]
    rw [findK_snoc hl hr h]; simp; omega
   ·cases h
  ·cases h
theorem lookup_of_made {T : TypeId} {k : V} {K : S → V → Prop} (h : vmapEntry P T s x k K) : ∃ w, vlookup P T s x k false (fun u => w = u) := by
 unfold vmapEntry at h
 obtain ⟨i, bs, cl, r, res, z, h1, h2⟩ := vmapAt_atom h
 cases res with
 | none => exact ⟨_, vmapAt_use h1 rfl⟩
 | some j => exact ⟨_, vmapAt_use h1 rfl⟩
theorem lookup_made {T : TypeId} {bx' : Nat → List V} {k v u : V} {s' : S} (h : vmapEntry P T s x k (fun s' u' => bx' = s'.bx ∧ u = u')) (hv : vlookup P T s x k false (fun w => v = w)) (h1 : s'.bx = bx') (h2 : s'.nb = s.nb) :
  vlookup P T s' x k false (fun w => v = w) := by
 subst h1
 unfold vmapEntry at h
 obtain ⟨i, kt, et, tT, tk, te, ks, kc, z, bs, cl, r, kcs, res, q1, q2, rfl, q3, q4, q5, q6, q7, q8, q9, q10, ⟨q11, q12, q13, q14⟩, hK⟩ := vmapAt_inv h
 have hv' : vlookup P T s (.mr i) k false (fun w => (match res with | some j => (r.getD (2 * j + 1) .un).fz | none => z) = w) := by
  unfold vlookup
  refine vmapAt_of q1 q2 q3 q4 q5 q6 q7 q8 q9 q10 q11 q12 q13 q14 ?_
  cases res <;> rfl
 have hvv := vlookup_det hv hv'
 unfold vlookup
 cases res with
 | some j =>
  obtain ⟨hb, _⟩ := hK
  refine vmapAt_of q1 q2 q3 q4 q5 q6 q7 (by rw [hb]; exact q8) q9 q10 (by rw [h2]; exact q11) q12 q13 q14 ?_
  exact hvv
 | none =>
  obtain ⟨hb, _⟩ := hK
  have hkf : k.fz.kcs tk.agg = some kc := by cases k <;> simp_all [V.fz, V.kcs]
  have hz : z.fz = z := by
   unfold zeroOf at q7; split at q7 <;> first | (simp only [Option.some.injEq] at q7; subst q7; rfl) | cases q7
  have hlen := keysOf_len q9
  refine vmapAt_of (bs := bs ++ [cl]) (cl := cl + 1) (r := r ++ [k.fz, z]) q1 q2 q3 q4 q5 q6 q7 (by rw [hb]; simp only [up_same]) (keysOf_snoc hkf q9) (findK_snoc q12 q13 q10) (by rw [h2]; exact q11) q12 q13 q14 ?_
  simp only
  rw [show v = z from hvv]
  have : (r ++ [k.fz, z]).getD (2 * (0 + kcs.length) + 1) .un = z := by
   rw [Nat.zero_add, ← hlen]; simp
  rw [this, hz]; rfl
theorem boxC_grow {s' : S} (hn : s.nb ≤ s'.nb) (hb : ∀ i, i < s.nb → s'.bx i = s.bx i) {i : Nat} {cs : List C} (h : boxC s i = some cs) : boxC s' i = some cs := by
 unfold boxC at *
 split at h
 ·rename_i hi; rw [if_pos (by omega), hb i hi]; exact h
 ·cases h
theorem viewC_grow {s' : S} (hn : s.nb ≤ s'.nb) (hb : ∀ i, i < s.nb → s'.bx i = s.bx i) {i off len sz : Nat} {c : C} (h : viewC s i off len sz = some c) : viewC s' i off len sz = some c := by
 unfold viewC at *
 split at h
 ·rename_i cs hc; simp only [boxC_grow hn hb hc]; exact h
 ·cases h
theorem immC_grow {s' : S} (hn : s.nb ≤ s'.nb) (hb : ∀ i, i < s.nb → s'.bx i = s.bx i) {x : V} {c : C} (h : immC s x = some c) : immC s' x = some c := by
 unfold immC at *
 split at h
 ·exact h
 ·exact h
 ·obtain ⟨cs, hc, rfl⟩ := Option.map_eq_some_iff.1 h; rw [boxC_grow hn hb hc]; rfl
 ·exact viewC_grow hn hb h
 ·cases h
theorem mapM_grow {α β : Type} {f g : α → Option β} (h : ∀ x y, f x = some y → g x = some y) : ∀ {l : List α} {r : List β}, l.mapM f = some r → l.mapM g = some r
 | [], r, hr => by simpa using hr
 | x :: l, r, hr => by
  rw [List.mapM_cons] at hr ⊢
  cases hx : f x with
  | none => rw [hx] at hr; cases hr
  | some y =>
   rw [hx] at hr
   rw [h x y hx]
   cases hl : l.mapM f with
   | none => rw [hl] at hr; cases hr
   | some r' => rw [hl] at hr; rw [mapM_grow h hl]; exact hr
theorem imm_grow {s' : S} (hn : s.nb ≤ s'.nb) (hb : ∀ i, i < s.nb → s'.bx i = s.bx i) {x y : V} (h : imm s x = some y) : imm s' x = some y := by
 unfold imm at *
 split at h
 ·exact h
 ·exact h
 ·exact h
 ·obtain ⟨cs, hc, rfl⟩ := Option.map_eq_some_iff.1 h; rw [boxC_grow hn hb hc]; rfl
 ·split at h
  ·rename_i e1 e2
   simp only [mapM_grow (fun _ _ => immC_grow hn hb) e1, mapM_grow (fun _ _ => immC_grow hn hb) e2]; exact h
  ·cases h
 ·obtain ⟨c, hc, rfl⟩ := Option.map_eq_some_iff.1 h; rw [viewC_grow hn hb hc]; rfl
 ·obtain ⟨c, hc, rfl⟩ := Option.map_eq_some_iff.1 h; rw [mapM_grow (fun _ _ => immC_grow hn hb) hc]; rfl
 ·cases h
theorem vw_grow {s' : S} (hn : s.nb ≤ s'.nb) (hb : ∀ i, i < s.nb → s'.bx i = s.bx i) (x : V) : vw s x = vw s' x ∨ vw s x = .un := by
 cases x <;> try exact .inl rfl
 case ms i off len cap sz =>
  simp only [vw]
  cases hv : viewC s i off len sz with
  | none => exact .inr rfl
  | some c => rw [viewC_grow hn hb hv]; exact .inl rfl
theorem vapp_grow {s' : S} {ts : List TypeId} {z y : V} {K : V → Prop} (hn : s.nb ≤ s'.nb) (hb : ∀ i, i < s.nb → s'.bx i = s.bx i) (h : vbuiltin P .append ts [z, vw s y] K) : vbuiltin P .append ts [z, vw s' y] K := by
 rcases vw_grow hn hb y with e2 | e2
 ·rw [← e2]; exact h
 ·rw [e2] at h
  unfold vbuiltin at h
  split at h <;> first | cases ‹Builtin.append = _› | skip
  ·rename_i t t' x y' hxy
   obtain ⟨rfl, rfl⟩ : z = x ∧ V.un = y' := by
    simp only [List.cons.injEq, and_true] at hxy; exact hxy
   split at h
   ·exfalso
    unfold vappend at h
    split at h
    ·split at h
     ·exact h.2.elim
     ·exact h.elim
    ·exact h.elim
   ·exfalso; unfold vappStr at h; simp [V.fz] at h
  ·exact h.elim
theorem vappH_grow {s' : S} {ts : List TypeId} {E : Option (TypeId × Nat)} {es : List (List C)} {y : V} {K : V → Prop} (hn : s.nb ≤ s'.nb) (hb : ∀ i, i < s.nb → s'.bx i = s.bx i) (h : vappH P ts E es (vw s y).fz K) : vappH P ts E es (vw s' y).fz K := by
 rcases vw_grow hn hb y with e2 | e2
 ·rw [← e2]; exact h
 ·exfalso
  rw [e2] at h
  unfold vappH at h
  split at h
  ·obtain ⟨_, h⟩ := h
   split at h
   ·split at h
    ·obtain ⟨_, h⟩ := h
     split at h
     ·rename_i e; cases e
     ·exact h.elim
    ·exact h.elim
   ·exact h.elim
  ·exact h.elim
theorem vappG_grow {s' : S} {ts : List TypeId} {E : Option (TypeId × Nat)} {es : List (List C)} {y : V} {K : V → Prop} (hn : s.nb ≤ s'.nb) (hb : ∀ i, i < s.nb → s'.bx i = s.bx i) (h : vappG P ts E es (vw s y).fz K) : vappG P ts E es (vw s' y).fz K := by
 rcases vw_grow hn hb y with e2 | e2
 ·rw [← e2]; exact h
 ·exfalso
  rw [e2] at h
  unfold vappG at h
  split at h
  ·obtain ⟨_, h⟩ := h
   split at h
   ·split at h
    ·obtain ⟨_, h⟩ := h
     split at h
     ·rename_i e; cases e
     ·exact h.elim
    ·exact h.elim
   ·exact h.elim
  ·exact h.elim
theorem VYK_grow {s' : S} {K : V → Prop} (hdq : ∀ d, o.dst = some d → s.fr d = s'.fr d) (he : ∀ x ∈ o.op.operands, ev G s x = ev G s' x) (hn : s.nb ≤ s'.nb) (hb : ∀ i, i < s.nb → s'.bx i = s.bx i) (hm : opMem tr o = 1) (h : VYK P G tr o s K) : VYK P G tr o s' K := by
 have marr : ∀ l : Array Operand, (∀ x ∈ l, ev G s x = ev G s' x) → l.toList.map (ev G s) = l.toList.map (ev G s') := fun l hl => List.map_congr_left fun x hx => hl x (by simpa using hx)
 have hm0 := hm
 obtain ⟨dst, op, type, pos, after, guard⟩ := o
 cases op <;> simp only [opMem] at hm <;> try cases hm
 case buildSlice => split at hm <;> cases hm
 case load T x =>
  simp only [VYK] at h ⊢
  rw [← he x (by simp [Op.operands])]
  unfold vload at h ⊢
  split at h
  ·exact h
  ·rename_i i b k _
   obtain ⟨⟨h1, h2⟩, h3⟩ := h
   rw [hb _ h1]
   exact ⟨⟨by omega, h2⟩, h3⟩
  ·rcases h with ⟨h1, b, k, len, cap, E, es, c, ⟨q1, q2, q3, q4⟩, h⟩ | ⟨b, k, len, cap, E, es, ⟨q1, q2, q3⟩, h⟩
   ·exact .inl ⟨h1, b, k, len, cap, E, es, c, ⟨by omega, by rw [hb _ q1]; exact q2, by rw [hb _ q1]; exact q3, q4⟩, h⟩
   ·exact .inr ⟨b, k, len, cap, E, es, ⟨by omega, by rw [hb _ q1]; exact q2, by rw [hb _ q1]; exact q3⟩, h⟩
  ·exact h.elim
 case convert src dst' x =>
  simp only [VYK] at h ⊢
  rw [← he x (by simp [Op.operands])]
  rcases vw_grow hn hb (ev G s x) with e | e
  ·rw [← e]; exact h
  ·rw [e] at h; simp [V.fz, vconv] at h
 case lookup T x k ok =>
  simp only [VYK] at h ⊢
  rw [← he x (by simp [Op.operands]), ← he k (by simp [Op.operands])]
  unfold vlookup at h ⊢
  obtain ⟨i, kt, et, tT, tk, te, ks, kc, z, bs, cl, r, kcs, res, q1, q2, q3, q4, q5, q6, q7, q8, q9, q10, q11, ⟨q12, q13, q14, q15⟩, hK⟩ := vmapAt_inv h
  rw [q3]
  exact vmapAt_of q1 q2 q4 q5 q6 q7 q8 (by rw [hb i q12]; exact q9) q10 q11 (by omega) q13 q14 q15 hK
 case range T x =>
  simp only [VYK] at h ⊢
  rw [← he x (by simp [Op.operands])]
  unfold vrange at h ⊢
  split at h
  ·rename_i i _
   split at h
   ·rename_i e1
    obtain ⟨h1, h2⟩ := h
    rw [hb _ h1]; simp only [e1]; exact ⟨by omega, h2⟩
   ·exact h.elim
  ·exact h.elim
 case entry x =>
  simp only [VYK] at h ⊢
  rw [← he x (by simp [Op.operands])]
  unfold ventry at h ⊢
  split at h
  ·rename_i i since stepped seen _
   split at h
   ·rename_i e1 e2
    split at h
    ·rename_i e3
     obtain ⟨⟨h1, h0⟩, h2⟩ := h
     rw [hb _ h1]; simp only [e1, e2, e3]; exact ⟨⟨by omega, h0⟩, h2⟩
    ·exact h.elim
   ·exact h.elim
  ·exact h.elim
 case call c =>
  obtain ⟨callee, args, ts⟩ := c
  cases callee with
  | value f =>
   simp only [VYK] at h ⊢
   rw [← he f (by simp [Op.operands, Call.operands]), ← marr args fun x hx => he x (by simp [Op.operands, Call.operands, hx])]
   unfold vcall at h ⊢
   split at h
   ·split at h
    ·rename_i e1; simp only [mapM_grow (fun _ _ => imm_grow hn hb) e1]; exact h
    ·exact h.elim
   ·split at h
    ·rename_i e1 e2 e3
     simp only [mapM_grow (fun _ _ => imm_grow hn hb) e1, mapM_grow (fun _ _ => imm_grow hn hb) e2, mapM_grow (fun _ _ => imm_grow hn hb) e3]; exact h
    ·exact h.elim
   ·exact h.elim
  | invoke r m => exact h.elim
  | builtin b =>
   cases b <;> first | (simp [opMem] at hm0; done) | skip
   case append =>
    by_cases hgh : isGh tr dst = true
    ·simp only [VYK, if_pos hgh] at h ⊢
     by_cases hho : isHo tr dst = true
     ·rw [if_pos hho] at h ⊢
      unfold vhot at h ⊢
      split at h
      ·rename_i t y d ha
       have ht : s.fr t = s'.fr t := by
        have := he (.tmp t) (by simp only [Op.operands, Call.operands]; rw [Array.empty_append]; exact Array.mem_toList_iff.1 (by rw [ha]; simp))
        simpa [ev] using this
       have hy : ev G s y = ev G s' y := he y (by simp only [Op.operands, Call.operands]; rw [Array.empty_append]; exact Array.mem_toList_iff.1 (by rw [ha]; simp))
       rw [← ht, ← hdq d rfl, ← hy]
       split at h
       ·exact ⟨h.1, vappH_grow hn hb h.2⟩
       ·exact h.elim
      ·exact h.elim
     ·rw [if_neg hho] at h ⊢
      unfold vghost at h ⊢
      split at h
      ·rename_i t y d ha
       have ht : s.fr t = s'.fr t := by
        have := he (.tmp t) (by simp only [Op.operands, Call.operands]; rw [Array.empty_append]; exact Array.mem_toList_iff.1 (by rw [ha]; simp))
        simpa [ev] using this
       have hy : ev G s y = ev G s' y := he y (by simp only [Op.operands, Call.operands]; rw [Array.empty_append]; exact Array.mem_toList_iff.1 (by rw [ha]; simp))
       rw [← ht, ← hdq d rfl, ← hy]
       split at h
       ·exact ⟨h.1, vapp_grow hn hb h.2⟩
       ·exact ⟨h.1, vappG_grow hn hb h.2⟩
       ·exact h.elim
      ·exact h.elim
    simp only [VYK, if_neg hgh] at h ⊢
    have hh : (args.toList.map fun x => vw s' (ev G s' x)) = args.toList.map fun x => vw s' (ev G s x) := List.map_congr_left fun x hx => by rw [he x (by simp only [Op.operands, Call.operands]; simpa using hx)]
    rw [hh]
    unfold vbuiltin at h ⊢
    split at h <;> first | cases ‹Builtin.append = _› | skip
    ·rename_i t t' x y hts hargs
     obtain ⟨X, Y, hX, rfl, rfl⟩ : ∃ X Y, args.toList = [X, Y] ∧ x = vw s (ev G s X) ∧ y = vw s (ev G s Y) := by
      cases ha : args.toList with
      | nil => simp [ha] at hargs
      | cons X l =>
       cases l with
       | nil => simp [ha] at hargs
       | cons Y l => simp only [ha, List.map_cons, List.cons.injEq, List.map_eq_nil_iff] at hargs; exact ⟨X, Y, by rw [hargs.2.2], hargs.1.symm, hargs.2.1.symm⟩
     rw [hX, hts]
     simp only [List.map_cons, List.map_nil]
     have hno : ∀ u K', ¬ vappend P t .un u K' := fun u K' h => by simp [vappend] at h
     have hno2 : ∀ u K', ¬ vappend P t u V.un K' := fun u K' h => by
      unfold vappend at h
      split at h
      ·split at h
       ·exact h.2.elim
       ·exact h.elim
      ·exact h.elim
     rcases vw_grow hn hb (ev G s X) with e1 | e1
     ·rcases vw_grow hn hb (ev G s Y) with e2 | e2
      ·rw [← e1, ← e2]; exact h
      ·rw [e2] at h
       split at h
       ·exact (hno2 _ _ h).elim
       ·unfold vappStr at h; simp [V.fz] at h
     ·rw [e1] at h
      split at h
      ·exact (hno _ _ h).elim
      ·unfold vappStr at h
       split at h
       ·split at h
        ·exact (hno _ _ h.2).elim
        ·exact h.elim
       ·exact h.elim
    ·exact h.elim
theorem VEf_grow {s' : S} {e : Ef} (hdq : ∀ d, o.dst = some d → s.fr d = s'.fr d) (hm : opMem tr o = 1) (he : ∀ x ∈ o.op.operands, ev G s x = ev G s' x) (hn : s.nb ≤ s'.nb) (hb : ∀ i, i < s.nb → s'.bx i = s.bx i) (h : VEf P G tr o s e) : VEf P G tr o s' e := by
 unfold VEf at h ⊢
 split at h
 ·rename_i hop; simp [opMem, hop] at hm
 ·rename_i hop; simp [opMem, hop] at hm
 ·rename_i hop; simp [opMem, hop] at hm
 ·rename_i hop; simp only [opMem, hop] at hm; split at hm <;> cases hm
 ·rename_i hop; simp [opMem, hop] at hm
 ·rename_i hop
  split at h
  ·rename_i hmu; simp [opMem, hop, hmu] at hm
  ·rename_i hmu
   rw [if_neg hmu]
   obtain ⟨v, h1, h2⟩ := h
   exact ⟨v, h1, VYK_grow hdq he hn hb hm h2⟩
 ·rename_i T X hop
  obtain ⟨v, h1, h2, h3⟩ := h
  exact ⟨v, h1, by rw [← he X (by rw [hop]; simp [Op.operands])]; exact h2, VYK_grow hdq he hn hb hm h3⟩
 ·rename_i hop; simp [opMem, hop] at hm
 ·rename_i hop; simp [opMem, hop] at hm
 ·rename_i hop; simp [opMem, hop] at hm
 ·rename_i hop; simp [opMem, hop] at hm
 ·rename_i hop
  split at h
  ·exact h.elim
  rename_i hne
  rw [if_neg hne]
  split at h
  ·rename_i hr; simp [opMem, hop, hr] at hm
  ·rename_i hr
   rw [if_neg hr]
   obtain ⟨v, h1, h2⟩ := h
   exact ⟨v, h1, VYK_grow hdq he hn hb hm h2⟩
 ·rename_i hop; simp [opMem, hop] at hm
 ·obtain ⟨v, h1, h2⟩ := h
  exact ⟨v, h1, VYK_grow hdq he hn hb hm h2⟩
theorem raApart_spec {x y : Oper} (h : raApart tr x y = true) : opMem tr x = 1 ∧ ∀ (q : S) (f : Ef), VEf P G tr y q f → q.nb ≤ f.nb q.nb ∧ ∀ i, i < q.nb → f.bx q.nb q.bx i = q.bx i := by
 unfold raApart at h
 simp only [Bool.and_eq_true, beq_iff_eq] at h
 refine ⟨h.1, fun q f hf => ?_⟩
 have h2 := h.2
 have al : (∃ cs, f = .al cs) → q.nb ≤ f.nb q.nb ∧ ∀ i, i < q.nb → f.bx q.nb q.bx i = q.bx i := by
  rintro ⟨cs, rfl⟩
  exact ⟨Nat.le_succ _, fun i hi => up_ne _ _ (by omega)⟩
 split at h2
 ·rename_i hop
  unfold VEf at hf; rw [hop] at hf
  simp only at hf
  split at hf
  ·exact al ⟨_, hf⟩
  ·exact hf.elim
 ·rename_i hop
  unfold VEf at hf; rw [hop] at hf
  simp only at hf
  split at hf
  ·exact al ⟨_, hf⟩
  ·exact hf.elim
 ·rename_i hop
  unfold VEf at hf; rw [hop] at hf
  simp only [h2, if_true] at hf
  obtain ⟨bx, nb, x, rfl, hv⟩ := hf
  unfold vbuildSlice at hv
  split at hv
  ·split at hv
   ·obtain ⟨_, hv⟩ := hv
    split at hv
    ·simp only [vnewE] at hv
     split at hv
     ·obtain ⟨⟨rfl, rfl⟩, _⟩ := hv
      exact ⟨Nat.le_succ _, fun i hi => up_ne _ _ (by omega)⟩
     ·exact hv.elim
    ·exact hv.elim
   ·exact hv.elim
  ·exact hv.elim
 ·cases h2
theorem TEf.keep {x y : Oper} {e f : Ef} (hap : Apart tr ops x y) (hx : TEf P G tr ops x s e) (hy : TEf P G tr ops y s f) : TEf P G tr ops x (f.run tr y s) e := by
 have hl : ∀ t ∈ x.looksAt ops, s.fr t = (f.run tr y s).fr t := fun t ht => by
  rw [run_eq]
  simp only
  rw [slotF_other (fun hw => hap.yx t hw ht)]
 have hdq : ∀ d, x.dst = some d → s.fr d = (f.run tr y s).fr d := fun d hd => by
  rw [run_eq]
  simp only
  rw [slotF_other (hap.ww d (by simp [wr, hd]))]
 by_cases hls : lsApart tr x y = true
 ·obtain ⟨q1, q2⟩ := ls_frame hls hy
  exact TEf_ls hls hl q2 q1 hx
 by_cases hlk : lkApart x y = true
 ·obtain ⟨T, m, k, hx1, hy1⟩ := lkApart_spec hlk
  rcases hy with ⟨_, hv, _⟩ | ⟨_, rfl⟩
  ·rcases hx with ⟨hg, hw, hne⟩ | ⟨hg, he⟩
   ·refine .inl ⟨by rw [← gval_congr hl]; exact hg, ?_, hne⟩
    unfold VEf at hv hw ⊢
    rw [hy1] at hv
    rw [hx1] at hw ⊢
    obtain ⟨bx, u, rfl, hv⟩ := hv
    obtain ⟨v, rfl, hw⟩ := hw
    refine ⟨v, rfl, ?_⟩
    obtain ⟨dst, op, type, pos, after, guard⟩ := x
    simp only at hx1; subst hx1
    simp only [VYK] at hw ⊢
    have e1 : ev G ((Ef.gn bx s.nb u).run tr y s) (.tmp m) = ev G s (.tmp m) := (hl m (operand_looks (x := .tmp m) (by simp [Op.operands]) rfl)).symm
    have e2 : ev G ((Ef.gn bx s.nb u).run tr y s) (.tmp k) = ev G s (.tmp k) := (hl k (operand_looks (x := .tmp k) (by simp [Op.operands]) rfl)).symm
    rw [e1, e2]
    exact lookup_made (bx' := bx) (u := u) (vmapEntry_K (vmapEntry_back hv) fun s' u' e => ⟨by rw [← e.1], e.2⟩) hw rfl rfl
   ·exact .inr ⟨by rw [← gval_congr hl]; exact hg, he⟩
  ·exact TEf_congr hdq hl (fun _ => ⟨rfl, rfl⟩) hx
 by_cases hra : raApart tr x y = true
 ·obtain ⟨h1, h2⟩ := raApart_spec hra
  rcases hx with ⟨hg, hw, hne⟩ | ⟨hg, he⟩
  ·refine .inl ⟨by rw [← gval_congr hl]; exact hg, ?_, hne⟩
   have hf : s.nb ≤ f.nb s.nb ∧ ∀ i, i < s.nb → f.bx s.nb s.bx i = s.bx i := by
    rcases hy with ⟨_, hv, _⟩ | ⟨_, rfl⟩
    ·exact h2 _ _ hv
    ·exact ⟨Nat.le_refl _, fun _ _ => rfl⟩
   exact VEf_grow hdq h1 (fun q hq => ev_congr fun t ht => hl t (operand_looks hq ht)) hf.1 hf.2 hw
  ·exact .inr ⟨by rw [← gval_congr hl]; exact hg, he⟩
 ·refine TEf_congr hdq hl (fun hm => ?_) hx
  have hq := TEf_mem hy (fun h => hm ((hap.my h).resolve_right (fun h => by rcases h with h | h | h; exact hls h; exact hlk h; exact hra h)))
  obtain ⟨q1, q2, _⟩ := quiet_mem hq s.bx s.nb 0
  exact ⟨q1.symm, q2.symm⟩
theorem TEf.back {x y : Oper} {e f : Ef} (hap : Apart tr ops x y) (hx : TEf P G tr ops x s e) (hy : TEf P G tr ops y (e.run tr x s) f) : TEf P G tr ops y s f := by
 have hl : ∀ t ∈ y.looksAt ops, (e.run tr x s).fr t = s.fr t := fun t ht => by
  rw [run_eq]
  simp only
  rw [slotF_other (fun hw => hap.xy t hw ht)]
 have hdq : ∀ d, y.dst = some d → (e.run tr x s).fr d = s.fr d := fun d hd => by
  rw [run_eq]
  simp only
  rw [slotF_other (fun hw => hap.ww d hw (by simp [wr, hd]))]
 by_cases hls : lsApart tr y x = true
 ·obtain ⟨q1, q2⟩ := ls_frame hls hx
  exact TEf_ls hls hl (fun d b h1 h2 h3 => (q2 d b h1 h2 h3).symm) q1.symm hy
 by_cases hlk : lkApart y x = true
 ·obtain ⟨T, m, k, hx1, hy1⟩ := lkApart_spec hlk
  rcases hx with ⟨_, hv, _⟩ | ⟨_, rfl⟩
  ·rcases hy with ⟨hg, hw, hne⟩ | ⟨hg, he⟩
   ·refine .inl ⟨by rw [← gval_congr hl]; exact hg, ?_, hne⟩
    unfold VEf at hv hw ⊢
    rw [hy1] at hv
    rw [hx1] at hw ⊢
    obtain ⟨bx, u, rfl, hv⟩ := hv
    obtain ⟨v, rfl, hw⟩ := hw
    refine ⟨v, rfl, ?_⟩
    obtain ⟨dst, op, type, pos, after, guard⟩ := y
    simp only at hx1; subst hx1
    simp only [VYK] at hw ⊢
    have e1 : ev G ((Ef.gn bx s.nb u).run tr x s) (.tmp m) = ev G s (.tmp m) := hl m (operand_looks (x := .tmp m) (by simp [Op.operands]) rfl)
    have e2 : ev G ((Ef.gn bx s.nb u).run tr x s) (.tmp k) = ev G s (.tmp k) := hl k (operand_looks (x := .tmp k) (by simp [Op.operands]) rfl)
    rw [e1, e2] at hw
    have hE := vmapEntry_K (vmapEntry_back hv) (K' := fun s' u' => bx = s'.bx ∧ u = u') fun s' u' e => ⟨by rw [← e.1], e.2⟩
    obtain ⟨w, hw0⟩ := lookup_of_made hE
    have := lookup_made (s' := (Ef.gn bx s.nb u).run tr x s) hE hw0 rfl rfl
    rw [vlookup_det hw this]; exact hw0
   ·exact .inr ⟨by rw [← gval_congr hl]; exact hg, he⟩
  ·exact TEf_congr hdq hl (fun _ => ⟨rfl, rfl⟩) hy
 ·refine TEf_congr hdq hl (fun hm => ?_) hy
  have hq := TEf_mem hx (fun h => hm ((hap.mx h).resolve_right (fun h => by rcases h with h | h; exact hls h; exact hlk h)))
  obtain ⟨q1, q2, _⟩ := quiet_mem hq s.bx s.nb 0
  exact ⟨q1, q2⟩
theorem run_comm {x y : Oper} {e f : Ef} (hap : Apart tr ops x y) (hx : TEf P G tr ops x s e) (hy : TEf P G tr ops y s f) : f.run tr y (e.run tr x s) = e.run tr x (f.run tr y s) := by
 simp only [run_eq]
 by_cases h2 : opMem tr x = 2
 ·have hq := TEf_mem hy (fun h => by
   rcases hap.mx h2 with h' | h' | h'
   ·rw [h'] at h; cases h
   ·rw [lsApart_mem h'] at h; cases h
   ·rw [(lkApart_mem (tr := tr) h').1] at h; cases h)
  obtain ⟨q1, q2, q3⟩ := quiet_mem hq (e.bx s.nb s.bx) (e.nb s.nb) s.nb
  obtain ⟨r1, r2, _⟩ := quiet_mem hq s.bx s.nb s.nb
  rw [q1, q2, q3, r1, r2, slotF_comm hap.ww]
 ·have hq := TEf_mem hx h2
  obtain ⟨q1, q2, q3⟩ := quiet_mem hq (f.bx s.nb s.bx) (f.nb s.nb) s.nb
  obtain ⟨r1, r2, _⟩ := quiet_mem hq s.bx s.nb s.nb
  rw [q1, q2, q3, r1, r2, slotF_comm hap.ww]
def FreeAt (tr : List Nat) (md : Region.Mode) (ops : Array Oper) (listed : Array Bool) (i : Nat) (oi : Oper) : Prop :=
 ∃ B : List Nat, (∀ j ∈ B, listed.getD j true = false ∧ ∃ oj, ops[j]? = some oj ∧ ∃ e ∈ oj.after, Region.binds md e = true ∧ (e.on = i ∨ e.on ∈ B)) ∧
  ∀ j oj, ops[j]? = some oj → j ≠ i → listed.getD j true = false → j ∉ B → apartV tr ops oi oj = true
theorem FreeAt.step {md : Region.Mode} {listed : Array Bool} {i j : Nat} {oi oj : Oper} (h : FreeAt tr md ops listed i oi) (hr : i ∈ Region.ready md ops listed) (hj : j ∈ Region.ready md ops listed) (hji : j ≠ i) (hoj : ops[j]? = some oj) :
  Apart tr ops oi oj ∧ FreeAt tr md ops (listed.setIfInBounds j true) i oi := by
 obtain ⟨B, hB, hfree⟩ := h
 obtain ⟨hjun, oj', hoj', hall⟩ := mem_ready.1 hj
 rw [hoj] at hoj'; cases hoj'
 have hun : ∀ q, listed.getD q true = false → ∀ e ∈ oj.after, Region.binds md e = true → e.on ≠ q := fun q h0 e he hb heq => by
  have h1 := hall e he hb
  rw [heq] at h1
  rcases Nat.lt_or_ge q listed.size with h' | h'
  ·simp [h'] at h0 h1; rw [h0] at h1; cases h1
  ·simp [Array.getElem?_eq_none h'] at h1
 have hjB : j ∉ B := fun hjB => by
  obtain ⟨_, oj', hoj', e, he, hb, hon⟩ := hB j hjB
  rw [hoj] at hoj'; cases hoj'
  rcases hon with hon | hon
  ·exact hun i (mem_ready.1 hr).1 e he hb hon
  ·exact hun _ (hB _ hon).1 e he hb rfl
 refine ⟨apartV_spec (hfree j oj hoj hji hjun hjB), B, fun b hb => ?_, fun k ok hk hki hun hno => ?_⟩
 ·have hjb : j ≠ b := fun h => hjB (by rw [h]; exact hb)
  exact ⟨by rw [Go.getD_set_ne true hjb]; exact (hB b hb).1, (hB b hb).2⟩
 ·refine hfree k ok hk hki ?_ hno
  by_cases hjk : j = k
  ·subst hjk; exact hjun
  ·rw [Go.getD_set_ne true hjk] at hun; exact hun
theorem vAny_first {K : S → Prop} {i : Nat} {oi : Oper} {e : Ef} (hi : ops[i]? = some oi) :
  ∀ (fuel : Nat) (listed : Array Bool) (s : S), FreeAt tr md ops listed i oi →
   i ∈ Region.ready md ops listed → TEf P G tr ops oi s e →
   vAny P G tr md ops K fuel (listed.setIfInBounds i true) (e.run tr oi s) → vAny P G tr md ops K (fuel + 1) listed s := by
 intro fuel
 induction fuel with
 | zero =>
  intro listed s _ hr hy H
  refine ⟨fun h => (by rw [h] at hr; cases hr), fun j hj => ?_⟩
  by_cases hji : j = i
  ·subst hji; unfold vopI; simp only [hi]; exact ⟨e, hy, H⟩
  ·have := ready_mono hj hji
   rw [H.1] at this
   cases this
 | succ fuel ih =>
  intro listed s hfree hr hy H
  refine ⟨fun h => (by rw [h] at hr; cases hr), fun j hj => ?_⟩
  by_cases hji : j = i
  ·subst hji; unfold vopI; simp only [hi]; exact ⟨e, hy, H⟩
  ·have h1 := H.2 j (ready_mono hj hji)
   obtain ⟨_, oj, hoj, _⟩ := mem_ready.1 hj
   obtain ⟨hap, hfree'⟩ := hfree.step hr hj hji hoj
   unfold vopI at h1 ⊢
   simp only [hoj] at h1 ⊢
   obtain ⟨f, hf, hK⟩ := h1
   have hf' := hy.back hap hf
   refine ⟨f, hf', ih (listed.setIfInBounds j true) _ hfree' (ready_mono hr (Ne.symm hji)) (hy.keep hap hf') ?_⟩
   rw [Array.setIfInBounds_comm _ _ hji, ← run_comm hap hy hf']
   exact hK
def blocked (ops : Array Oper) (listed : Array Bool) (i : Nat) : List Nat → List Nat → List Nat
 | [], B => B
 | j :: r, B => blocked ops listed i r (match ops[j]? with
  | some oj => if (!listed.getD j true) && (oj.after.any fun e => Region.binds .any e && (e.on == i || B.contains e.on)) then j :: B else B
  | none => B)
theorem blocked_spec {ops : Array Oper} {listed : Array Bool} {i : Nat} : ∀ (l B : List Nat), (∀ j ∈ B, listed.getD j true = false ∧ ∃ oj, ops[j]? = some oj ∧ ∃ e ∈ oj.after, Region.binds .any e = true ∧ (e.on = i ∨ e.on ∈ B)) →
  ∀ j ∈ blocked ops listed i l B, listed.getD j true = false ∧ ∃ oj, ops[j]? = some oj ∧ ∃ e ∈ oj.after, Region.binds .any e = true ∧ (e.on = i ∨ e.on ∈ blocked ops listed i l B)
 | [], _, h => h
 | k :: r, B, h => by
  unfold blocked
  refine blocked_spec r _ ?_
  split
  ·rename_i oj hoj
   split
   ·rename_i hc
    simp only [Bool.and_eq_true, Bool.not_eq_true'] at hc
    obtain ⟨h1, h2⟩ := hc
    rw [Array.any_eq_true'] at h2
    obtain ⟨e, he, h3⟩ := h2
    simp only [Bool.and_eq_true, Bool.or_eq_true, beq_iff_eq, List.contains_eq_mem, decide_eq_true_eq] at h3
    intro j hj
    rcases List.mem_cons.1 hj with rfl | hj
    ·exact ⟨h1, oj, hoj, e, he, h3.1, h3.2.imp id (List.mem_cons_of_mem _)⟩
    ·obtain ⟨a, b, c, d, hd, f, g⟩ := h j hj
     exact ⟨a, b, c, d, hd, f, g.imp id (List.mem_cons_of_mem _)⟩
   ·exact h
  ·exact h
def freeV (tr : List Nat) (ops : Array Oper) (listed : Array Bool) (i : Nat) : Bool :=
 match ops[i]? with
 | none => true
 | some oi => (fun B => (List.range ops.size).all fun j => match ops[j]? with
  | none => true
  | some oj => j == i || listed.getD j true || List.contains B j || apartV tr ops oi oj) (blocked ops listed i (List.range ops.size) [])
theorem freeV_spec {i : Nat} {oi : Oper} {listed : Array Bool} (hi : ops[i]? = some oi) (h : freeV tr ops listed i = true) : FreeAt tr .any ops listed i oi := by
 unfold freeV at h
 simp only [hi, List.all_eq_true, List.mem_range] at h
 refine ⟨blocked ops listed i (List.range ops.size) [], blocked_spec _ _ (fun _ h => by cases h), fun j oj hj hji hl hno => ?_⟩
 have hlt : j < ops.size := (Array.getElem?_eq_some_iff.1 hj).1
 have := h j hlt
 simp only [hj, hl, Bool.or_eq_true, beq_iff_eq, hji, false_or, Bool.false_eq_true, List.contains_eq_mem, decide_eq_true_eq] at this
 exact this.resolve_left hno
def lexFromV (tr : List Nat) (ops : Array Oper) : Nat → Nat → Array Bool → Bool
 | 0, _, listed => (Region.ready .any ops listed).isEmpty
 | fuel + 1, k, listed => (Region.ready .any ops listed).contains k && freeV tr ops listed k && lexFromV tr ops fuel (k + 1) (listed.setIfInBounds k true)
def lexLV (tr : List Nat) (ops : Array Oper) : List Nat → Array Bool → Bool
 | [], listed => (Region.ready .any ops listed).isEmpty
 | k :: r, listed => (Region.ready .any ops listed).contains k && freeV tr ops listed k && lexLV tr ops r (listed.setIfInBounds k true)
def preLV (tr : List Nat) (ops : Array Oper) : List Nat → Array Bool → Option (Array Bool)
 | [], listed => some listed
 | k :: r, listed => if (Region.ready .any ops listed).contains k && freeV tr ops listed k then preLV tr ops r (listed.setIfInBounds k true) else none
def nums (ops : Array Oper) (ks : List Nat) : List Oper := ks.filterMap fun k => ops[k]?
theorem vAny_lexL {K : S → Prop} : ∀ (ks : List Nat) (listed : Array Bool) (s : S), (∀ k ∈ ks, ∃ o, ops[k]? = some o ∧ isAN tr o = false) →
  lexLV tr ops ks listed = true → vops P G tr ops (nums ops ks) s K → vAny P G tr .any ops K ks.length listed s
 | [], _, _, _, hB, h => ⟨by simpa [lexLV] using hB, h⟩
 | k :: r, listed, s, hA, hB, h => by
  obtain ⟨o, ho, hAN⟩ := hA k (List.mem_cons_self ..)
  simp only [lexLV, Bool.and_eq_true] at hB
  obtain ⟨⟨hr, hf⟩, hB'⟩ := hB
  simp only [nums, List.filterMap_cons, ho, vops] at h
  obtain ⟨e, he, hK⟩ := TEf_of_guard (K := fun s' => vops P G tr ops (nums ops r) s' K) hAN h
  exact vAny_first ho r.length listed s (freeV_spec ho hf) (by simpa using hr) he
   (vAny_lexL r _ _ (fun k hk => hA k (List.mem_cons_of_mem _ hk)) hB' hK)
theorem vAny_pre {K K0 : S → Prop} (m : Nat) (listed' : Array Bool) (hK0 : ∀ s', K0 s' → vAny P G tr .any ops K m listed' s') : ∀ (ks : List Nat) (listed : Array Bool) (s : S), (∀ k ∈ ks, ∃ o, ops[k]? = some o ∧ isAN tr o = false) →
  preLV tr ops ks listed = some listed' → vops P G tr ops (nums ops ks) s K0 → vAny P G tr .any ops K (m + ks.length) listed s
 | [], listed, s, _, hB, h => by simp only [preLV, Option.some.injEq] at hB; subst hB; exact hK0 _ h
 | k :: r, listed, s, hA, hB, h => by
  obtain ⟨o, ho, hAN⟩ := hA k (List.mem_cons_self ..)
  unfold preLV at hB
  split at hB
  ·rename_i hc
   simp only [Bool.and_eq_true] at hc
   obtain ⟨hr, hf⟩ := hc
   simp only [nums, List.filterMap_cons, ho, vops] at h
   obtain ⟨e, he, hK⟩ := TEf_of_guard (K := fun s' => vops P G tr ops (nums ops r) s' K0) hAN h
   have := vAny_first ho (m + r.length) listed s (freeV_spec ho hf) (by simpa using hr) he
    (vAny_pre m listed' hK0 r _ _ (fun k hk => hA k (List.mem_cons_of_mem _ hk)) hB hK)
   simpa [Nat.add_assoc] using this
  ·cases hB
def twoOk (tr : List Nat) (ops : Array Oper) : Bool := ops.toList.all (fun o => !isAN tr o) && match preLV tr ops (List.range (firstAl ops)) (Array.replicate ops.size false) with
 | some listed => (Region.ready .any ops listed).all (fun k => k == firstAl ops || k == firstAl ops + 1) && (Region.ready .any ops listed).contains (firstAl ops) && decide (firstAl ops + 1 < ops.size) &&
   lexLV tr ops ((List.range ops.size).drop (firstAl ops + 1)) (listed.setIfInBounds (firstAl ops) true) && lexLV tr ops (firstAl ops :: (List.range ops.size).drop (firstAl ops + 2)) (listed.setIfInBounds (firstAl ops + 1) true)
 | none => false
theorem nums_range (i m : Nat) (h : i + m ≤ ops.size) : nums ops (List.range' i m) = (ops.toList.drop i).take m := by
 induction m generalizing i with
 | zero => simp [nums]
 | succ m ih =>
  have hi : i < ops.size := by omega
  have ih' := ih (i + 1) (by omega)
  unfold nums at ih' ⊢
  have hd : ops.toList.drop i = ops[i] :: ops.toList.drop (i + 1) := by
   rw [List.drop_eq_getElem_cons (by simpa using hi)]; simp
  rw [List.range'_succ, List.filterMap_cons, Array.getElem?_eq_getElem hi, hd, List.take_succ_cons]
  simp only
  rw [ih']
theorem region_two_any (hok : dstOk n ops = true) (hdr : twoOk tr ops = true) {K : S → Prop} (hK : ∀ a w s, K s → SE G n I0 M w0 s a w → Q .normal a w)
  (h : vtwo P G tr ops s K) (hse : SE G n I0 M w0 s a w) : wpAny P .any ops Q ops.size (Array.replicate ops.size false) a { w with drawn := w.drawn + 1 } := by
 unfold twoOk at hdr
 simp only [Bool.and_eq_true, List.all_eq_true, Bool.not_eq_true'] at hdr
 obtain ⟨hA, hdr⟩ := hdr
 have hA' : ∀ k, k < ops.size → ∃ o, ops[k]? = some o ∧ isAN tr o = false := fun k hk => ⟨ops[k], Array.getElem?_eq_getElem hk, hA _ (by simp)⟩
 split at hdr
 ·rename_i listed hpre
  simp only [Bool.and_eq_true, decide_eq_true_eq] at hdr
  obtain ⟨⟨⟨⟨hall, hmem⟩, hsz⟩, hl1⟩, hl2⟩ := hdr
  generalize hi : firstAl ops = i at *
  unfold vtwo at h
  rw [hi] at h
  have hr0 : List.range i = List.range' 0 i := List.range_eq_range'
  have hpreN : nums ops (List.range i) = ops.toList.take i := by
   rw [hr0, nums_range 0 i (by omega)]; rfl
  have hdN1 : (List.range ops.size).drop (i + 1) = List.range' (i + 1) (ops.size - (i + 1)) := by
   rw [List.range_eq_range', List.drop_range']; simp
  have hdN2 : (List.range ops.size).drop (i + 2) = List.range' (i + 2) (ops.size - (i + 2)) := by
   rw [List.range_eq_range', List.drop_range']; simp
  have hci : ops.toList.drop i = ops[i] :: ops[i + 1] :: ops.toList.drop (i + 2) := by
   rw [List.drop_eq_getElem_cons (by simp; omega), List.drop_eq_getElem_cons (i := i + 1) (by simp; omega)]; simp
  have hn1 : nums ops ((List.range ops.size).drop (i + 1)) = ops[i + 1] :: ops.toList.drop (i + 2) := by
   rw [hdN1, nums_range _ _ (by omega)]
   rw [List.take_of_length_le (by simp), List.drop_eq_getElem_cons (by simp; omega)]; simp
  have hn2 : nums ops ((List.range ops.size).drop (i + 2)) = ops.toList.drop (i + 2) := by
   rw [hdN2, nums_range _ _ (by omega)]
   exact List.take_of_length_le (by simp)
  have key : vAny P G tr .any ops K ((ops.size - (i + 1) + 1) + (List.range i).length) (Array.replicate ops.size false) s := by
   rw [← hpreN] at h
   refine vAny_pre _ listed (fun s' hs' => ?_) (List.range i) _ s (fun k hk => hA' k (by have := List.mem_range.1 hk; omega)) hpre h
   obtain ⟨h1, h2⟩ := hs'
   rw [hci] at h1 h2
   simp only [swap2] at h2
   refine ⟨fun h0 => (by rw [h0] at hmem; cases hmem), fun k hk => ?_⟩
   have hk' := List.all_eq_true.1 hall k hk
   simp only [Bool.or_eq_true, beq_iff_eq] at hk'
   obtain ⟨oi, hoi, hAi⟩ := hA' i (by omega)
   obtain ⟨oj, hoj, hAj⟩ := hA' (i + 1) hsz
   rcases hk' with rfl | rfl
   ·unfold vopI
    simp only [hoi]
    rw [show ops[k] = oi from by rw [Array.getElem?_eq_getElem (by omega)] at hoi; simpa using hoi] at h1
    simp only [vops] at h1
    obtain ⟨e, he, hK'⟩ := TEf_of_guard (K := fun s' => vops P G tr ops (ops[k + 1] :: ops.toList.drop (k + 2)) s' K) hAi h1
    refine ⟨e, he, ?_⟩
    have := vAny_lexL (K := K) ((List.range ops.size).drop (k + 1)) (listed.setIfInBounds k true) _ (fun q hq => hA' q (by have := List.mem_range.1 (List.mem_of_mem_drop hq); exact this)) hl1 (by rw [hn1]; exact hK')
    simpa using this
   ·unfold vopI
    simp only [hoj]
    rw [show ops[i + 1] = oj from by rw [Array.getElem?_eq_getElem hsz] at hoj; simpa using hoj] at h2
    simp only [vops] at h2
    obtain ⟨e, he, hK'⟩ := TEf_of_guard (K := fun s' => vops P G tr ops (ops[i] :: ops.toList.drop (i + 2)) s' K) hAj h2
    refine ⟨e, he, ?_⟩
    have := vAny_lexL (K := K) (i :: (List.range ops.size).drop (i + 2)) (listed.setIfInBounds (i + 1) true) _ (fun q hq => hA' q (by
     rcases List.mem_cons.1 hq with rfl | hq
     ·omega
     ·exact List.mem_range.1 (List.mem_of_mem_drop hq))) hl2 (by
     unfold nums
     rw [List.filterMap_cons, Array.getElem?_eq_getElem (show i < ops.size by omega)]
     simp only
     have := hn2
     unfold nums at this
     rw [this]; exact hK')
    have e1 : (i :: (List.range ops.size).drop (i + 2)).length = ops.size - (i + 1) := by simp; omega
    rw [e1] at this; exact this
  have hse' : SE G n I0 M w0 s a { w with drawn := w.drawn + 1 } := by
   obtain ⟨I, β, ob, hst⟩ := hse
   exact ⟨I, β, ob, hst.drew⟩
  have e2 : (ops.size - (i + 1) + 1) + (List.range i).length = ops.size := by simp; omega
  rw [e2] at key
  exact vAny_sound hok hK _ _ _ _ _ key hse'
 ·cases hdr
def drawOk (tr : List Nat) (ops : Array Oper) : Bool := ops.toList.all (fun o => !isAN tr o) && lexFromV tr ops ops.size 0 (Array.replicate ops.size false)
theorem vAny_lex {K : S → Prop} : ∀ (l : List Oper) (k : Nat) (listed : Array Bool) (s : S), (∀ o ∈ l, isAN tr o = false) → (∀ j, l[j]? = ops[k + j]?) →
  lexFromV tr ops l.length k listed = true → vops P G tr ops l s K → vAny P G tr .any ops K l.length listed s
 | [], _, _, _, _, _, hB, h => ⟨by simpa [lexFromV] using hB, h⟩
 | o :: l, k, listed, s, hA, hl, hB, h => by
  have h0 : ops[k]? = some o := by simpa using (hl 0).symm
  simp only [List.length_cons, lexFromV, Bool.and_eq_true] at hB
  obtain ⟨⟨hr, hf⟩, hB'⟩ := hB
  simp only [vops] at h
  obtain ⟨e, he, hK⟩ := TEf_of_guard (K := fun s' => vops P G tr ops l s' K) (hA o (List.mem_cons_self ..)) h
  exact vAny_first h0 l.length listed s (freeV_spec h0 hf) (by simpa using hr) he
   (vAny_lex l (k + 1) _ _ (fun o ho => hA o (List.mem_cons_of_mem _ ho)) (fun j => by have := hl (j + 1); simpa [Nat.add_assoc, Nat.add_comm 1 j] using this) hB' hK)
theorem region_draw_any (hok : dstOk n ops = true) (hdr : drawOk tr ops = true) {K : S → Prop} (hK : ∀ a w s, K s → SE G n I0 M w0 s a w → Q .normal a w)
  (h : vops P G tr ops ops.toList s K) (hse : SE G n I0 M w0 s a w) : wpAny P .any ops Q ops.size (Array.replicate ops.size false) a { w with drawn := w.drawn + 1 } := by
 simp only [drawOk, Bool.and_eq_true, List.all_eq_true, Bool.not_eq_true'] at hdr
 have h1 := vAny_lex (K := K) ops.toList 0 (Array.replicate ops.size false) s hdr.1 (by simp) (by simpa using hdr.2) h
 have hse' : SE G n I0 M w0 s a { w with drawn := w.drawn + 1 } := by
  obtain ⟨I, β, ob, hst⟩ := hse
  exact ⟨I, β, ob, hst.drew⟩
 have := vAny_sound hok hK _ _ _ _ _ h1 hse'
 simpa using this
def vAnyL (P : Program) (G : Gl) (tr : List Nat) (ops : Array Oper) (L1 : Array Bool) (K0 : S → Prop) : Nat → Array Bool → S → Prop
 | 0, listed, s => listed = L1 ∧ K0 s
 | fuel + 1, listed, s => Region.ready .any ops listed ≠ [] ∧ ∀ i ∈ Region.ready .any ops listed, vopI P G tr ops i (vAnyL P G tr ops L1 K0 fuel (listed.setIfInBounds i true)) s
def allWait (ops : Array Oper) (m : Nat) : Bool := (List.range ops.size).all fun j => decide (j < m) || match ops[j]? with
 | some o => (List.range m).all fun k => o.after.any fun e => Region.binds .any e && (e.on == k)
 | none => true
theorem allWait_spec {m : Nat} (h : allWait ops m = true) {j k : Nat} {oj : Oper} (hj : ops[j]? = some oj) (hm : m ≤ j) (hk : k < m) : ∃ e ∈ oj.after, Region.binds .any e = true ∧ e.on = k := by
 unfold allWait at h
 rw [List.all_eq_true] at h
 have h1 := h j (List.mem_range.2 (Array.getElem?_eq_some_iff.1 hj).1)
 simp only [hj, Bool.or_eq_true, decide_eq_true_eq] at h1
 have h2 := List.all_eq_true.1 (h1.resolve_left (by omega)) k (List.mem_range.2 hk)
 rw [Array.any_eq_true'] at h2
 obtain ⟨e, he, h3⟩ := h2
 simp only [Bool.and_eq_true, beq_iff_eq] at h3
 exact ⟨e, he, h3.1, h3.2⟩
theorem lstd_false {m q j : Nat} (h : (lstd m q).getD j true = false) : m ≤ j := by
 rcases Nat.lt_or_ge j m with hj | hj
 ·exfalso
  unfold lstd at h
  rw [Array.getD_eq_getD_getElem?, List.getElem?_toArray, List.getElem?_append_left (by simpa using hj)] at h
  simp [hj] at h
 ·exact hj
theorem lstd_true {m q j : Nat} (h : (lstd m q).getD j false = true) : j < m := by
 rcases Nat.lt_or_ge j m with hj | hj
 ·exact hj
 ·exfalso
  unfold lstd at h
  rw [Array.getD_eq_getD_getElem?, List.getElem?_toArray, List.getElem?_append_right (by simpa using hj), List.getElem?_replicate] at h
  split at h <;> simp at h
theorem vAnyL_first {K0 : S → Prop} {m : Nat} (haw : allWait ops m = true) {i : Nat} {oi : Oper} {e : Ef} (hi : ops[i]? = some oi) :
  ∀ (fuel : Nat) (listed : Array Bool) (s : S), listed.size = ops.size → FreeAt tr .any ops listed i oi →
   i ∈ Region.ready .any ops listed → TEf P G tr ops oi s e →
   vAnyL P G tr ops (lstd m ops.size) K0 fuel (listed.setIfInBounds i true) (e.run tr oi s) → vAnyL P G tr ops (lstd m ops.size) K0 (fuel + 1) listed s := by
 intro fuel
 induction fuel with
 | zero =>
  intro listed s hsz _ hr hy H
  refine ⟨fun h => (by rw [h] at hr; cases hr), fun j hj => ?_⟩
  by_cases hji : j = i
  ·subst hji; unfold vopI; simp only [hi]; exact ⟨e, hy, H⟩
  ·exfalso
   obtain ⟨hun, oj, hoj, hall⟩ := mem_ready.1 hj
   have hil : i < listed.size := by rw [hsz]; exact (Array.getElem?_eq_some_iff.1 hi).1
   have h1 : (lstd m ops.size).getD j true = false := by rw [← H.1, Go.getD_set_ne true (Ne.symm hji)]; exact hun
   have h2 : (lstd m ops.size).getD i false = true := by
    rw [← H.1, Array.getD_eq_getD_getElem?, Array.getElem?_setIfInBounds_self_of_lt hil]; rfl
   obtain ⟨ed, hed, hb, hon⟩ := allWait_spec haw hoj (lstd_false h1) (lstd_true h2)
   have h3 := hall ed hed hb
   rw [hon] at h3
   have h4 := (mem_ready.1 hr).1
   rw [Array.getD_eq_getD_getElem?, Array.getElem?_eq_getElem hil] at h3 h4
   simp only [Option.getD_some] at h3 h4
   rw [h4] at h3; cases h3
 | succ fuel ih =>
  intro listed s hsz hfree hr hy H
  refine ⟨fun h => (by rw [h] at hr; cases hr), fun j hj => ?_⟩
  by_cases hji : j = i
  ·subst hji; unfold vopI; simp only [hi]; exact ⟨e, hy, H⟩
  ·have h1 := H.2 j (ready_mono hj hji)
   obtain ⟨_, oj, hoj, _⟩ := mem_ready.1 hj
   obtain ⟨hap, hfree'⟩ := hfree.step hr hj hji hoj
   unfold vopI at h1 ⊢
   simp only [hoj] at h1 ⊢
   obtain ⟨f, hf, hK⟩ := h1
   have hf' := hy.back hap hf
   refine ⟨f, hf', ih (listed.setIfInBounds j true) _ (by rw [Array.size_setIfInBounds]; exact hsz) hfree' (ready_mono hr (Ne.symm hji)) (hy.keep hap hf') ?_⟩
   rw [Array.setIfInBounds_comm _ _ hji, ← run_comm hap hy hf']
   exact hK
theorem vAnyL_pre {K0 : S → Prop} {m : Nat} (haw : allWait ops m = true) : ∀ (ks : List Nat) (listed : Array Bool) (s : S), listed.size = ops.size → (∀ k ∈ ks, ∃ o, ops[k]? = some o ∧ isAN tr o = false) →
  preLV tr ops ks listed = some (lstd m ops.size) → vops P G tr ops (nums ops ks) s K0 → vAnyL P G tr ops (lstd m ops.size) K0 ks.length listed s
 | [], listed, s, _, _, hB, h => by simp only [preLV, Option.some.injEq] at hB; exact ⟨hB, h⟩
 | k :: r, listed, s, hsz, hA, hB, h => by
  obtain ⟨o, ho, hAN⟩ := hA k (List.mem_cons_self ..)
  unfold preLV at hB
  split at hB
  ·rename_i hc
   simp only [Bool.and_eq_true] at hc
   obtain ⟨hr, hf⟩ := hc
   simp only [nums, List.filterMap_cons, ho, vops] at h
   obtain ⟨e, he, hK⟩ := TEf_of_guard (K := fun s' => vops P G tr ops (nums ops r) s' K0) hAN h
   exact vAnyL_first haw ho r.length listed s hsz (freeV_spec ho hf) (by simpa using hr) he
    (vAnyL_pre haw r _ _ (by rw [Array.size_setIfInBounds]; exact hsz) (fun k hk => hA k (List.mem_cons_of_mem _ hk)) hB hK)
  ·cases hB
theorem wpOp_of {K : S → Prop} {KW : Act → World → Prop} {i : Nat} {oi : Oper} {e : Ef} (hok : dstOk n ops = true) (hi : ops[i]? = some oi) (he : TEf P G tr ops oi s e) (hse : SE G n I0 M w0 s a w)
  (hK : K (e.run tr oi s)) (hKW : ∀ a w s, K s → SE G n I0 M w0 s a w → KW a w) : wpOp P ops Q i KW a w := by
 unfold wpOp
 simp only [hi]
 have hmem : oi ∈ ops.toList := by
  have := Array.mem_of_getElem? hi
  simpa using this
 obtain ⟨I, β, ob, hst⟩ := hse
 rcases he with ⟨hg, hv, _⟩ | ⟨hg, rfl⟩
 ·rw [if_pos (gval_wanted hst hg)]
  exact .inl (VEf_sound hst (dstOk_spec hok hmem) hv fun a' w' hse' => hKW _ _ _ hK hse')
 ·rw [gval_wanted hst hg]
  simp only [Bool.false_eq_true, if_false]
  rw [run_skip] at hK
  exact hKW _ _ _ hK (SE.put hst (dstOk_spec hok hmem) (by simp only [LR]; exact .sk))
theorem vAnyL_sound (hok : dstOk n ops = true) {K0 : S → Prop} {L1 : Array Bool} {r : Nat} (hK : ∀ a w s, K0 s → SE G n I0 M w0 s a w → wpAny P .any ops Q r L1 a w) : ∀ (fuel : Nat) (listed : Array Bool) (s : S) (a : Act) (w : World),
  vAnyL P G tr ops L1 K0 fuel listed s → SE G n I0 M w0 s a w → wpAny P .any ops Q (r + fuel) listed a w
 | 0, listed, _, a, w, h, hse => by obtain ⟨rfl, h⟩ := h; exact hK _ _ _ h hse
 | fuel + 1, _, s, a, w, h, hse => by
  refine ⟨fun h0 => absurd h0 h.1, fun i hi => ?_⟩
  have hh := h.2 i hi
  obtain ⟨_, oi, hoi, _⟩ := mem_ready.1 hi
  unfold vopI at hh
  simp only [hoi] at hh
  obtain ⟨e, he, hh⟩ := hh
  exact wpOp_of hok hoi he hse hh fun a w s hs hse => vAnyL_sound hok hK fuel _ s a w hs hse
def onlyN (Q : Exit → Act → World → Prop) : Exit → Act → World → Prop := fun e a w => e = .normal ∧ Q e a w
theorem onlyN_out {Q : Exit → Act → World → Prop} : ¬ LetsOut (onlyN Q) := fun ⟨_, _, h, _⟩ => by cases h
theorem region_two_In {l : Option Nat} {m : Nat} {id : Nat} (hm : P.follows .mixedOrders = true) (hnd : noDef ops = true) (hok : dstOk n ops = true) (hdr : twoOk tr ops = true) {K : S → Prop} (hK : ∀ a w s, K s → SE G n I0 M w0 s a w → Q .normal a w)
  (h : vtwo P G tr ops s K) (hse : SE G n I0 M w0 s a w) : (Code.region id ops true).wpIn (FW l) m P Q a w :=
 wpIn_mono (Q := onlyN Q) (wpIn_region_any hm (wpAny_In hnd onlyN_out _ _ _ _ (region_two_any hok hdr (fun a w s hk hse => ⟨rfl, hK a w s hk hse⟩) h hse))) (fun _ _ _ h => h.2)
theorem region_draw_In {l : Option Nat} {m : Nat} {id : Nat} (hm : P.follows .mixedOrders = true) (hnd : noDef ops = true) (hok : dstOk n ops = true) (hdr : drawOk tr ops = true) {K : S → Prop} (hK : ∀ a w s, K s → SE G n I0 M w0 s a w → Q .normal a w)
  (h : vops P G tr ops ops.toList s K) (hse : SE G n I0 M w0 s a w) : (Code.region id ops true).wpIn (FW l) m P Q a w :=
 wpIn_mono (Q := onlyN Q) (wpIn_region_any hm (wpAny_In hnd onlyN_out _ _ _ _ (region_draw_any hok hdr (fun a w s hk hse => ⟨rfl, hK a w s hk hse⟩) h hse))) (fun _ _ _ h => h.2)
end
