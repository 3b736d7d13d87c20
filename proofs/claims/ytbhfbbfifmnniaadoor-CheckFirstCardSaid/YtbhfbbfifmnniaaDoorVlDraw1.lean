/- Values without memory: regions that draw their order: an operation's effect. -/
import Derived.Test.YtbhfbbfifmnniaaDoorVlCode
import Derived.Orders
set_option linter.unusedSimpArgs false
set_option linter.unusedVariables false
namespace Go.Vl
open Go Go.RowKit

section
variable {P : Program} {G : Gl} {tr : List Nat} {s : S} {o : Oper} {x y : V} {K : V → Prop}

theorem vint_atom {op : BinOp} {k : IntKind} {a b : Int} (h : vint op k a b K) : ∃ v, vint op k a b (fun u => v = u) ∧ K v := by
  cases op <;> simp only [vint] at h ⊢ <;> first | exact ⟨_, rfl, h⟩ | exact ⟨_, ⟨h.1, rfl⟩, h.2⟩

theorem vstr_atom {op : BinOp} {a b : ByteArray} (h : vstr op a b K) : ∃ v, vstr op a b (fun u => v = u) ∧ K v := by
  cases op <;> simp only [vstr] at h ⊢ <;> first | exact h.elim | exact ⟨_, rfl, h⟩ | exact ⟨_, ⟨h.1, rfl⟩, h.2⟩

theorem vbin_atom {op : BinOp} {T : TypeId} (h : vbin P op T x y K) : ∃ v, vbin P op T x y (fun u => v = u) ∧ K v := by
  unfold vbin at h
  split at h
  · split at h
    · exact vint_atom h
    · exact vint_atom h
    · rename_i h1 h2
      split at h
      · rename_i hk
        obtain ⟨v, hv, hK⟩ := vint_atom h
        refine ⟨v, ?_, hK⟩
        unfold vbin
        simp only [if_pos hk]
        first | exact hv | (split <;> first | exact hv | simp_all)
      · exact h.elim
  · exact vstr_atom h
  · split at h
    · rename_i hi
      split at h
      · exact ⟨_, by simp only [vbin, hi], h⟩
      · exact ⟨_, by simp only [vbin, hi], h⟩
      · exact h.elim
    · exact h.elim
  · split at h
    · rename_i hi
      split at h
      · rename_i hr
        obtain ⟨hl, h⟩ := h
        split at h
        · exact ⟨_, by simp only [vbin, hi, hr]; exact ⟨hl, trivial⟩, h⟩
        · exact ⟨_, by simp only [vbin, hi, hr]; exact ⟨hl, trivial⟩, h⟩
        · exact h.elim
      · exact h.elim
    · exact h.elim
  · exact h.elim

theorem vun_atom {op : UnOp} (h : vun op x K) : ∃ v, vun op x (fun u => v = u) ∧ K v := by
  unfold vun at h
  split at h <;> first | exact h.elim | exact ⟨_, rfl, h⟩

theorem partV_atom {ag : Bool} {sz off : Nat} {cs : List C} (h : partV ag sz off cs K) : ∃ v, partV ag sz off cs (fun u => v = u) ∧ K v := by
  unfold partV at h
  split at h
  · rename_i hag; exact ⟨_, by unfold partV; rw [if_pos hag]; exact ⟨h.1, rfl⟩, h.2⟩
  · rename_i hag
    split at h
    · rename_i c hc; exact ⟨_, by unfold partV; rw [if_neg hag, hc], h⟩
    · exact h.elim

theorem partM_atom {ag : Bool} {sz off : Nat} {vs : List V} (h : partM ag sz off vs K) : ∃ v, partM ag sz off vs (fun u => v = u) ∧ K v := by
  unfold partM at h
  split at h
  · rename_i hag; exact ⟨_, by unfold partM; rw [if_pos hag]; exact ⟨h.1, rfl⟩, h.2⟩
  · rename_i hag
    split at h
    · rename_i c hc; exact ⟨_, by unfold partM; rw [if_neg hag, hc], h⟩
    · exact h.elim

theorem vload_atom {T : TypeId} (h : vload P T s x K) : ∃ v, vload P T s x (fun u => v = u) ∧ K v := by
  unfold vload at h
  split at h
  · rename_i hi
    obtain ⟨v, h1, h2⟩ := partV_atom h
    exact ⟨v, by unfold vload; rw [hi]; exact h1, h2⟩
  · rename_i i b k hi
    obtain ⟨hb, h⟩ := h
    split at h
    · rename_i hag
      exact ⟨_, by unfold vload; rw [hi]; refine ⟨hb, ?_⟩; rw [if_pos hag]; exact ⟨h.1, rfl⟩, h.2⟩
    · rename_i hag
      split at h
      · rename_i c hc
        exact ⟨_, by unfold vload; rw [hi]; refine ⟨hb, ?_⟩; rw [if_neg hag, hc], h⟩
      · exact h.elim
  · exact h.elim

theorem vfieldAddr_atom {T : TypeId} {f : Nat} (h : vfieldAddr P T x f K) : ∃ v, vfieldAddr P T x f (fun u => v = u) ∧ K v := by
  unfold vfieldAddr at h
  split at h
  · rename_i i hi
    split at h
    · rename_i hf; exact ⟨_, by unfold vfieldAddr; simp only [hi, hf]; exact ⟨h.1, trivial⟩, h.2⟩
    · rename_i hf; exact ⟨_, by unfold vfieldAddr; simp only [hi, hf]; exact ⟨h.1, trivial⟩, h.2⟩
    · exact h.elim
  · exact h.elim

theorem vfield_atom {T : TypeId} {f : Nat} (h : vfield P T x f K) : ∃ v, vfield P T x f (fun u => v = u) ∧ K v := by
  unfold vfield at h
  split at h
  · rename_i hi
    split at h
    · rename_i hf
      obtain ⟨v, h1, h2⟩ := partV_atom h
      exact ⟨v, by unfold vfield; simp only [hi, hf]; exact h1, h2⟩
    · exact h.elim
  · rename_i hi
    split at h
    · rename_i hf
      obtain ⟨v, h1, h2⟩ := partM_atom h
      exact ⟨v, by unfold vfield; simp only [hi, hf]; exact h1, h2⟩
    · exact h.elim
  · exact h.elim

theorem vindexAddr_atom {T : TypeId} (h : vindexAddr P T x y K) : ∃ v, vindexAddr P T x y (fun u => v = u) ∧ K v := by
  unfold vindexAddr at h
  split at h
  · rename_i hi
    split at h
    · rename_i hj
      obtain ⟨h0, h⟩ := h
      split at h
      · rename_i hc
        exact ⟨_, by unfold vindexAddr; simp only [hi, hj, hc]; exact ⟨h0, h.1, trivial⟩, h.2⟩
      · exact h.elim
    · exact h.elim
  · rename_i hi
    split at h
    · rename_i hj
      exact ⟨_, by unfold vindexAddr; simp only [hi, hj]; exact ⟨h.1, trivial⟩, h.2⟩
    · exact h.elim
  · rename_i hi
    split at h
    · rename_i hj
      exact ⟨_, by unfold vindexAddr; simp only [hi, hj]; exact ⟨h.1, trivial⟩, h.2⟩
    · exact h.elim
  · rename_i hi
    split at h
    · rename_i hj
      exact ⟨_, by unfold vindexAddr; simp only [hi, hj]; exact ⟨h.1, trivial⟩, h.2⟩
    · exact h.elim
  · exact h.elim

theorem vindex_atom {T : TypeId} (h : vindex P T x y K) : ∃ v, vindex P T x y (fun u => v = u) ∧ K v := by
  unfold vindex at h
  split at h
  · rename_i hi
    obtain ⟨h0, h⟩ := h
    split at h
    · rename_i hc
      exact ⟨_, by unfold vindex; simp only [hi, hc]; exact ⟨h0, trivial⟩, h⟩
    · exact h.elim
  · rename_i hi
    split at h
    · rename_i hj
      obtain ⟨v, h1, h2⟩ := partV_atom h.2
      exact ⟨v, by unfold vindex; simp only [hi, hj]; exact ⟨h.1, h1⟩, h2⟩
    · exact h.elim
  · exact h.elim

theorem vslice_atom {T : TypeId} {lo hi mx : Option V} (h : vslice P T x lo hi mx K) : ∃ v, vslice P T x lo hi mx (fun u => v = u) ∧ K v := by
  unfold vslice at h
  split at h
  · rename_i ht
    split at h
    · rename_i e1 e2
      exact ⟨_, by unfold vslice; simp only [ht, e1, e2]; exact ⟨h.1, trivial⟩, h.2⟩
    · exact h.elim
  · rename_i ht
    split at h
    · split at h
      · rename_i e1 e2 e3
        exact ⟨_, by unfold vslice; simp only [ht, e1, e2, e3]; exact ⟨h.1, trivial⟩, h.2⟩
      · exact h.elim
    · split at h
      · rename_i e1 e2
        exact ⟨_, by unfold vslice; simp only [ht, e1, e2]; exact ⟨h.1, trivial⟩, h.2⟩
      · exact h.elim
    · exact h.elim
  · rename_i ht
    split at h
    · rename_i e1 e2 e3 e4
      exact ⟨_, by unfold vslice; simp only [ht, e1, e2, e3, e4]; exact ⟨h.1, trivial⟩, h.2⟩
    · exact h.elim
  · rename_i ht
    split at h
    · rename_i e1
      exact ⟨_, by unfold vslice; simp only [ht, e1]; exact ⟨h.1, trivial⟩, h.2⟩
    · exact h.elim
  · exact h.elim

theorem vconv_atom {src dst : TypeId} (h : vconv P src dst x K) : ∃ v, vconv P src dst x (fun u => v = u) ∧ K v := by
  unfold vconv at h
  split at h
  · rename_i e1 e2; exact ⟨_, by unfold vconv; simp only [e1, e2], h⟩
  · rename_i e1 e2; exact ⟨_, by unfold vconv; simp only [e1, e2], h⟩
  · rename_i e1 e2
    split at h
    · rename_i e3; exact ⟨_, by unfold vconv; simp only [e1, e2, e3], h⟩
    · exact h.elim
  · rename_i e1 e2
    split at h
    · rename_i e3
      split at h
      · rename_i e4; exact ⟨_, by unfold vconv; simp only [e1, e2, e3, e4], h⟩
      · exact h.elim
    · exact h.elim
  · exact h.elim

theorem vbuild_atom {T : TypeId} {parts : List (Nat × V)} (h : vbuild P T parts K) : ∃ v, vbuild P T parts (fun u => v = u) ∧ K v := by
  unfold vbuild at h
  split at h
  · rename_i e1
    split at h
    · rename_i e2; exact ⟨_, by unfold vbuild; simp only [e1, e2], h⟩
    · rename_i e2
      split at h
      · rename_i e3; exact ⟨_, by unfold vbuild; simp only [e1, e2, e3], h⟩
      · exact h.elim
  · rename_i e1
    split at h
    · rename_i e2
      split at h
      · rename_i e3; exact ⟨_, by unfold vbuild; simp only [e1, e2, e3], h⟩
      · exact h.elim
    · exact h.elim
  · exact h.elim

theorem vbuildSlice_atom {T : TypeId} {len : Nat} {parts : List (Nat × V)} (h : vbuildSlice P T len parts K) : ∃ v, vbuildSlice P T len parts (fun u => v = u) ∧ K v := by
  unfold vbuildSlice at h
  split at h
  · rename_i e1
    split at h
    · rename_i e2
      obtain ⟨h0, h⟩ := h
      split at h
      · rename_i e3; exact ⟨_, by unfold vbuildSlice; simp only [e1, e2, e3]; exact ⟨h0, trivial⟩, h⟩
      · exact h.elim
    · exact h.elim
  · exact h.elim

theorem vlen_atom {T : TypeId} (h : vlen P T x K) : ∃ v, vlen P T x (fun u => v = u) ∧ K v := by
  unfold vlen at h
  split at h
  all_goals first | exact h.elim | (rename_i e1; exact ⟨_, by unfold vlen; simp only [e1], h⟩)

theorem vappend_atom {T : TypeId} (h : vappend P T x y K) : ∃ v, vappend P T x y (fun u => v = u) ∧ K v := by
  unfold vappend at h
  split at h
  · rename_i e1
    split at h
    · rename_i e2
      obtain ⟨h0, h⟩ := h
      split at h
      · exact ⟨_, by unfold vappend; simp only [e1, e2]; exact ⟨h0, h.1, trivial⟩, h.2⟩
      · exact h.elim
    · exact h.elim
  · exact h.elim

theorem vmin_atom {mx : Bool} {l : List V} (h : vmin mx l K) : ∃ v, vmin mx l (fun u => v = u) ∧ K v := by
  unfold vmin at h
  split at h
  · exact ⟨_, rfl, h⟩
  · exact h.elim

theorem vcall_atom {f : V} {l : List V} (h : vcall P G s f l K) : ∃ v, vcall P G s f l (fun u => v = u) ∧ K v := by
  unfold vcall at h
  split at h
  · split at h
    · rename_i e1
      obtain ⟨r, h1, h2, h3⟩ := h
      exact ⟨r, by unfold vcall; simp only [e1]; exact ⟨r, h1, h2, rfl⟩, h3⟩
    · exact h.elim
  · split at h
    · rename_i e1 e2 e3
      obtain ⟨r, h1, h2, h3⟩ := h
      exact ⟨r, by unfold vcall; simp only [e1, e2, e3]; exact ⟨r, h1, h2, rfl⟩, h3⟩
    · exact h.elim
  · exact h.elim

theorem vbuiltin_atom {b : Builtin} {ts : List TypeId} {l : List V} (h : vbuiltin P b ts l K) : ∃ v, vbuiltin P b ts l (fun u => v = u) ∧ K v := by
  unfold vbuiltin at h
  split at h
  · exact vlen_atom h
  · split at h
    · rename_i ht
      obtain ⟨v, h1, h2⟩ := vappend_atom h
      exact ⟨v, by unfold vbuiltin; simp only [if_pos ht]; exact h1, h2⟩
    · exact h.elim
  · exact vmin_atom h
  · exact vmin_atom h
  · exact h.elim

theorem vcallE_atom {bx : Nat → List V} {nb : Nat} {f : V} {l : List V} {K : (Nat → List V) → Nat → V → Prop} (h : vcallE P G bx nb f l K) : ∃ bx' nb' v, vcallE P G bx nb f l (fun b n u => (bx' = b ∧ nb' = n) ∧ v = u) ∧ K bx' nb' v := by
  unfold vcallE at h
  split at h
  · rename_i g all e1
    obtain ⟨ρ, cargs, b0, r, b1, h1, h2, h3, h4, h5⟩ := h
    exact ⟨_, _, _, by unfold vcallE; simp only [e1]; exact ⟨ρ, cargs, b0, r, b1, h1, h2, h3, h4, ⟨rfl, rfl⟩, rfl⟩, h5⟩
  · exact h.elim

theorem vnewE_atom {bx : Nat → List V} {nb n m : Nat} {K : (Nat → List V) → Nat → V → Prop} (h : vnewE bx nb n m K x) : ∃ bx' nb' v, vnewE bx nb n m (fun b n u => (bx' = b ∧ nb' = n) ∧ v = u) x ∧ K bx' nb' v := by
  unfold vnewE at h
  split at h
  · exact ⟨_, _, _, ⟨⟨rfl, rfl⟩, rfl⟩, h⟩
  · exact h.elim

theorem vmake_atom {T : TypeId} {K : Nat → Nat → Nat → List C → Prop} (h : vmake P T x y K) : ∃ n m sz z, vmake P T x y (fun n' m' sz' z' => n = n' ∧ m = m' ∧ sz = sz' ∧ z = z') ∧ K n m sz z := by
  unfold vmake at h
  split at h
  · rename_i e1
    split at h
    · rename_i e2
      exact ⟨_, _, _, _, by unfold vmake; simp only [e1, e2]; exact ⟨h.1, by simp⟩, h.2⟩
    · exact h.elim
  · exact h.elim

theorem VYK_atom (h : VYK P G tr o s K) : ∃ v, VYK P G tr o s (fun u => v = u) ∧ K v := by
  obtain ⟨dst, op, type, pos, after, guard⟩ := o
  cases op <;> simp only [VYK] at h ⊢ <;> try exact h.elim
  case move x =>
    split at h
    · rename_i e; simp only [if_pos e]; exact ⟨_, rfl, h⟩
    · rename_i e; simp only [if_neg e]; exact ⟨_, rfl, h⟩
  case assign x => exact ⟨_, rfl, h⟩
  case pick c a b =>
    split at h
    · exact ⟨_, rfl, h⟩
    · exact h.elim
  case build T parts => exact vbuild_atom h
  case buildSlice T len parts => exact vbuildSlice_atom h
  case load T x => exact vload_atom h
  case binOp op T x y yT => exact vbin_atom h
  case unOp op T x => exact vun_atom h
  case convert src dst x => exact vconv_atom h
  case makeFunc f a b => exact ⟨_, ⟨h.1, rfl⟩, h.2⟩
  case slice T x lo hi mx => exact vslice_atom h
  case fieldAddr T x f => exact vfieldAddr_atom h
  case field T x f => exact vfield_atom h
  case indexAddr T x i => exact vindexAddr_atom h
  case index T x i => exact vindex_atom h
  case extract x i =>
    split at h
    · split at h
      · exact ⟨_, rfl, h⟩
      · exact h.elim
    · exact h.elim
  case call c =>
    obtain ⟨callee, args, ts⟩ := c
    cases callee with
    | value f => exact vcall_atom h
    | invoke r m => exact h.elim
    | builtin b =>
      cases b <;> exact vbuiltin_atom h

end
end Go.Vl
