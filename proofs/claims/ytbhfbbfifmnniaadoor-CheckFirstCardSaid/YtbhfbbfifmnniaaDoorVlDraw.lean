/- Values without memory: regions that draw their order: one order serves every order. -/
import Derived.Test.YtbhfbbfifmnniaaDoorVlDraw1
set_option linter.unusedSimpArgs false
set_option linter.unusedVariables false
namespace Go.Vl
open Go Go.RowKit

section
variable {P : Program} {G : Gl} {tr : List Nat} {s : S} {o : Oper} {x y : V} {ops : Array Oper} {md : Region.Mode}

/-- What an operation does to the state. -/
inductive Ef where
  | v (x : V)
  | al (cs : List V)
  | st (b k : Nat) (ds : List V)
  | gn (bx : Nat → List V) (nb : Nat) (x : V)
  | skip

def Ef.val (nb : Nat) : Ef → V
  | .v x => x
  | .al _ => .bp nb 0
  | .st _ _ _ => .sk
  | .gn _ _ x => x
  | .skip => .sk

def Ef.bx (nb : Nat) (bx : Nat → List V) : Ef → Nat → List V
  | .al cs => up bx nb cs
  | .st b k ds => up bx b (setV (bx b) k ds)
  | .gn bx' _ _ => bx'
  | _ => bx

def Ef.nb (nb : Nat) : Ef → Nat
  | .al _ => nb + 1
  | .gn _ nb' _ => nb'
  | _ => nb

def Ef.uses : Ef → Bool
  | .skip => false
  | _ => true

def useF (u : Bool) (t : Option Tmp) (fr : Nat → V) : Nat → V := match t with
  | some t => if u && (fr t).isOw then up fr t .un else fr
  | none => fr

def putF (d : Option Tmp) (x : V) (fr : Nat → V) : Nat → V := match d with
  | some d => up fr d x
  | none => fr

def Ef.run (tr : List Nat) (o : Oper) (s : S) (e : Ef) : S := ⟨putF o.dst (e.val s.nb) (useF e.uses (consT tr o) s.fr), e.bx s.nb s.bx, e.nb s.nb⟩

/-- The effect of an operation that is carried out. -/
def VEf (P : Program) (G : Gl) (tr : List Nat) (o : Oper) (s : S) (e : Ef) : Prop :=
  match o.op with
  | .alloc T => match ti P T with
    | some { zero := some z, .. } => e = .al (z.map zeroV)
    | _ => False
  | .box _ x => match (ev G s x).bcells with
    | some cs => e = .al cs
    | none => False
  | .store T p x => match ti P T, ev G s p, (ev G s x).bcells with
    | some i, .bp b k, some cs => (b < s.nb ∧ cs.length = i.size ∧ k + i.size ≤ (s.bx b).length) ∧ e = .st b k cs
    | _, _, _ => False
  | .buildSlice T len parts => if isNew tr o.dst then ∃ bx nb x, e = .gn bx nb x ∧ vbuildSlice P T len (parts.toList.map fun (i, x) => (i, ev G s x)) (vnewE s.bx s.nb len len fun b n u => (bx = b ∧ nb = n) ∧ x = u)
    else ∃ v, e = .v v ∧ VYK P G tr o s fun u => v = u
  | .makeSlice T l c => ∃ bx nb x, e = .gn bx nb x ∧ vmake P T (ev G s l) (ev G s c) fun n m sz z => (up s.bx s.nb ((List.replicate m z).flatten.map .c) = bx ∧ s.nb + 1 = nb) ∧ V.ms s.nb 0 n m sz = x
  | .call { callee := .value f, args := args, .. } => if isMut tr o.dst then ∃ bx nb x, e = .gn bx nb x ∧ vcallE P G s.bx s.nb (ev G s f) (args.toList.map (ev G s)) (fun b n u => (bx = b ∧ nb = n) ∧ x = u)
    else ∃ v, e = .v v ∧ VYK P G tr o s fun u => v = u
  | _ => ∃ v, e = .v v ∧ VYK P G tr o s fun u => v = u

theorem run_v (v : V) : (Ef.v v).run tr o s = s.after tr o v := by
  unfold Ef.run S.after S.use S.put useF putF
  cases consT tr o with
  | none => cases o.dst <;> rfl
  | some t => by_cases h : (s.fr t).isOw = true <;> cases o.dst <;> simp [h, Ef.uses, S.clr, Ef.val, Ef.bx, Ef.nb]

theorem run_al (cs : List V) : (Ef.al cs).run tr o s = (let s' := s.use (consT tr o); { s' with bx := up s'.bx s'.nb cs, nb := s'.nb + 1 } : S).put o.dst (.bp s.nb 0) := by
  unfold Ef.run S.use S.put useF putF
  cases consT tr o with
  | none => cases o.dst <;> rfl
  | some t => by_cases h : (s.fr t).isOw = true <;> cases o.dst <;> simp [h, Ef.uses, S.clr, Ef.val, Ef.bx, Ef.nb]

theorem run_st (b k : Nat) (ds : List V) : (Ef.st b k ds).run tr o s = (let s' := s.use (consT tr o); { s' with bx := up s'.bx b (setV (s'.bx b) k ds) } : S).put o.dst .sk := by
  unfold Ef.run S.use S.put useF putF
  cases consT tr o with
  | none => cases o.dst <;> rfl
  | some t => by_cases h : (s.fr t).isOw = true <;> cases o.dst <;> simp [h, Ef.uses, S.clr, Ef.val, Ef.bx, Ef.nb]

theorem run_gn (bx : Nat → List V) (nb : Nat) (x : V) : (Ef.gn bx nb x).run tr o s = (let s' := s.use (consT tr o); { s' with bx := bx, nb := nb } : S).put o.dst x := by
  unfold Ef.run S.use S.put useF putF
  cases consT tr o with
  | none => cases o.dst <;> rfl
  | some t => by_cases h : (s.fr t).isOw = true <;> cases o.dst <;> simp [h, Ef.uses, S.clr, Ef.val, Ef.bx, Ef.nb]

theorem vbuildSlice_of {T : TypeId} {len : Nat} {parts : List (Nat × V)} {v : V} {K : V → Prop} (h : vbuildSlice P T len parts (fun u => v = u)) (hk : ∀ u, v = u → K u) : vbuildSlice P T len parts K := by
  unfold vbuildSlice at h
  split at h
  · rename_i e1
    split at h
    · rename_i e2
      obtain ⟨h0, h⟩ := h
      split at h
      · rename_i e3
        unfold vbuildSlice
        simp only [e1, e2, e3]
        exact ⟨h0, hk _ h⟩
      · exact h.elim
    · exact h.elim
  · exact h.elim

theorem vcallE_of {bx : Nat → List V} {nb : Nat} {f : V} {l : List V} {K K' : (Nat → List V) → Nat → V → Prop} (h : vcallE P G bx nb f l K) (hk : ∀ b n u, K b n u → K' b n u) : vcallE P G bx nb f l K' := by
  unfold vcallE at h
  split at h
  · rename_i e1
    unfold vcallE
    simp only [e1]
    obtain ⟨ρ, cargs, b0, r, b1, h1, h2, h3, h4, h5⟩ := h
    exact ⟨ρ, cargs, b0, r, b1, h1, h2, h3, h4, hk _ _ _ h5⟩
  · exact h.elim

theorem vmake_of {T : TypeId} {l c : V} {K K' : Nat → Nat → Nat → List C → Prop} (h : vmake P T l c K) (hk : ∀ n m sz z, K n m sz z → K' n m sz z) : vmake P T l c K' := by
  unfold vmake at h
  split at h
  · rename_i e1
    split at h
    · rename_i e2
      unfold vmake
      simp only [e1, e2]
      exact ⟨h.1, hk _ _ _ _ h.2⟩
    · exact h.elim
  · exact h.elim

theorem run_skip : Ef.skip.run tr o s = s.put o.dst .sk := by
  unfold Ef.run S.put useF putF
  cases consT tr o <;> cases o.dst <;> simp [Ef.uses, Ef.val, Ef.bx, Ef.nb]

theorem VStep.ef {K : S → Prop} (hAN : isAN tr o = false) (h : VStep P G tr o s K) : ∃ e, e ≠ .skip ∧ VEf P G tr o s e ∧ K (e.run tr o s) := by
  have gen : VYK P G tr o s (fun v => K (s.after tr o v)) → (∀ e, VEf P G tr o s e ↔ ∃ v, e = .v v ∧ VYK P G tr o s fun u => v = u) → ∃ e, e ≠ .skip ∧ VEf P G tr o s e ∧ K (e.run tr o s) := fun h hV => by
    obtain ⟨v, h1, h2⟩ := VYK_atom h
    exact ⟨.v v, by simp, (hV _).2 ⟨v, rfl, h1⟩, by rw [run_v]; exact h2⟩
  unfold VStep at h
  split at h
  · rename_i T hop
    split at h
    · rename_i z _ _ hi
      refine ⟨.al (z.map zeroV), by simp, by unfold VEf; rw [hop]; simp only [hi], ?_⟩
      rw [run_al]
      have : consT tr o = none := by simp [consT, hop]
      rw [this]; exact h
    · exact h.elim
  · rename_i T X hop
    split at h
    · rename_i cs hi
      refine ⟨.al cs, by simp, by unfold VEf; rw [hop]; simp only [hi], ?_⟩
      rw [run_al]; exact h
    · exact h.elim
  · rename_i T p X hop
    split at h
    · rename_i i b k cs h1 h2 h3
      obtain ⟨h4, h⟩ := h
      refine ⟨.st b k cs, by simp, by unfold VEf; rw [hop]; simp only [h1, h2, h3]; exact ⟨h4, trivial⟩, ?_⟩
      rw [run_st]; exact h
    · exact h.elim
  · rename_i T len parts hop
    split at h
    · rename_i hn
      obtain ⟨v, h1, h2⟩ := vbuildSlice_atom h
      obtain ⟨bx, nb, x, h3, h4⟩ := vnewE_atom h2
      refine ⟨.gn bx nb x, by simp, ?_, ?_⟩
      · unfold VEf; rw [hop]; simp only [hn, if_true]
        refine ⟨bx, nb, x, rfl, ?_⟩
        refine vbuildSlice_of h1 fun u hu => ?_
        subst hu; exact h3
      · rw [run_gn]
        have : consT tr o = none := by simp [consT, hop]
        rw [this]; exact h4
    · rename_i hn
      refine gen h fun e => ?_
      unfold VEf; rw [hop]; simp only [if_neg hn]
  · rename_i T l c hop
    obtain ⟨p, m, sz, z, h1, h2⟩ := vmake_atom h
    refine ⟨.gn (up s.bx s.nb ((List.replicate m z).flatten.map .c)) (s.nb + 1) (.ms s.nb 0 p m sz), by simp, ?_, ?_⟩
    · unfold VEf; rw [hop]
      refine ⟨_, _, _, rfl, ?_⟩
      refine vmake_of h1 fun n' m' sz' z' hh => ?_
      obtain ⟨rfl, rfl, rfl, rfl⟩ := hh
      exact ⟨⟨rfl, rfl⟩, rfl⟩
    · rw [run_gn]
      have : consT tr o = none := by simp [consT, hop]
      rw [this]; exact h2
  · rename_i f args ts hop
    split at h
    · rename_i hn
      obtain ⟨bx, nb, x, h3, h4⟩ := vcallE_atom h
      refine ⟨.gn bx nb x, by simp, ?_, ?_⟩
      · unfold VEf; rw [hop]; simp only [hn, if_true]
        exact ⟨bx, nb, x, rfl, h3⟩
      · rw [run_gn]
        have : consT tr o = none := by simp [consT, hop]
        rw [this]; exact h4
    · rename_i hn
      refine gen h fun e => ?_
      unfold VEf; rw [hop]; simp only [if_neg hn]
  · rename_i args ts hop
    have hn : isNew tr o.dst = false := by simpa [isAN, hop] using hAN
    simp only [hn, Bool.false_eq_true, if_false] at h
    refine gen h fun e => ?_
    unfold VEf; rw [hop]
  · rename_i op T X Y yT hop
    have hn : isNilOp Y = false := by simpa [isAN, hop] using hAN
    simp only [hn, Bool.false_eq_true, if_false] at h
    refine gen h fun e => ?_
    unfold VEf; rw [hop]
  · rename_i n1 n2 n3 n4 n5 n6 n7 n8
    refine gen h fun e => ?_
    unfold VEf
    split
    · rename_i hop; exact absurd hop (n1 _)
    · rename_i hop; exact absurd hop (n2 _ _)
    · rename_i hop; exact absurd hop (n3 _ _ _)
    · rename_i hop; exact absurd hop (n4 _ _ _)
    · rename_i hop; exact absurd hop (n5 _ _ _)
    · rename_i hop; exact absurd hop (n6 _ _ _)
    · exact Iff.rfl

variable {n : Nat} {I0 : Ft} {M : Mx} {w0 : World} {I : Ft} {β : Nat → Option Nat} {ob : Loc → Option Nat} {a : Act} {w : World} {next : Act → World → Prop} {Q : Exit → Act → World → Prop}

theorem VEf_sound {e : Ef} (hst : St G n I0 M w0 I β ob s a w) (hd : ∀ d, o.dst = some d → d < n) (h : VEf P G tr o s e)
    (hk : ∀ a' w', SE G n I0 M w0 (e.run tr o s) a' w' → next a' w') : o.wp P a w next Q := by
  have viaStep : VStep P G tr o s (fun s' => e.run tr o s = s') → o.wp P a w next Q := fun h =>
    VStep_sound (tr := tr) hst hd h (fun a' w' s' hs hse => hk a' w' (by rw [hs]; exact hse))
  unfold VEf at h
  split at h
  · rename_i T hop
    split at h
    · rename_i z _ _ hi
      subst h
      refine viaStep ?_
      unfold VStep
      rw [hop]
      simp only [hi]
      rw [run_al]
      have : consT tr o = none := by simp [consT, hop]
      rw [this]; rfl
    · exact h.elim
  · rename_i T X hop
    split at h
    · rename_i cs hi
      subst h
      refine viaStep ?_
      unfold VStep
      rw [hop]
      simp only [hi]
      rw [run_al]
    · exact h.elim
  · rename_i T p X hop
    split at h
    · rename_i i b k cs h1 h2 h3
      obtain ⟨h4, rfl⟩ := h
      refine viaStep ?_
      unfold VStep
      rw [hop]
      simp only [h1, h2, h3]
      rw [run_st]
      exact ⟨h4, rfl⟩
    · exact h.elim
  · rename_i T len parts hop
    split at h
    · rename_i hn
      obtain ⟨bx, nb, x, rfl, h⟩ := h
      refine viaStep ?_
      unfold VStep
      rw [hop]
      simp only [hn, if_true]
      have : consT tr o = none := by simp [consT, hop]
      rw [run_gn, this]
      obtain ⟨v, h1, h2⟩ := vbuildSlice_atom h
      refine vbuildSlice_of h1 fun u hu => ?_
      subst hu
      obtain ⟨b, n, y, h3, ⟨rfl, rfl⟩, rfl⟩ := vnewE_atom h2
      unfold vnew
      unfold vnewE at h3 ⊢
      split at h3
      · obtain ⟨⟨rfl, rfl⟩, rfl⟩ := h3; rfl
      · exact h3.elim
    · rename_i hn
      obtain ⟨v, rfl, h⟩ := h
      exact VYK_sound (tr := tr) hst hd h (fun a' w' x hx hse => hk a' w' (by rw [run_v]; subst hx; exact hse))
  · rename_i T l c hop
    obtain ⟨bx, nb, x, rfl, h⟩ := h
    refine viaStep ?_
    unfold VStep
    rw [hop]
    have : consT tr o = none := by simp [consT, hop]
    rw [run_gn, this]
    refine vmake_of h fun n m sz z hh => ?_
    obtain ⟨⟨rfl, rfl⟩, rfl⟩ := hh
    rfl
  · rename_i f args ts hop
    split at h
    · rename_i hn
      obtain ⟨bx, nb, x, rfl, h⟩ := h
      refine viaStep ?_
      unfold VStep
      rw [hop]
      simp only [hn, if_true]
      have : consT tr o = none := by simp [consT, hop]
      rw [run_gn, this]
      refine vcallE_of h fun b n u hh => ?_
      obtain ⟨⟨rfl, rfl⟩, rfl⟩ := hh
      rfl
    · rename_i hn
      obtain ⟨v, rfl, h⟩ := h
      exact VYK_sound (tr := tr) hst hd h (fun a' w' x hx hse => hk a' w' (by rw [run_v]; subst hx; exact hse))
  · obtain ⟨v, rfl, h⟩ := h
    exact VYK_sound (tr := tr) hst hd h (fun a' w' x hx hse => hk a' w' (by rw [run_v]; subst hx; exact hse))

/-- Does an operation look at boxes (1), or change them (2)? -/
def opMem (tr : List Nat) (o : Oper) : Nat :=
  match o.op with
  | .load _ _ | .convert _ _ _ | .call { callee := .builtin .append, .. } => 1
  | .call { callee := .value _, .. } => if isMut tr o.dst then 2 else 1
  | .buildSlice _ _ _ => if isNew tr o.dst then 2 else 0
  | .alloc _ | .box _ _ | .store _ _ _ | .makeSlice _ _ _ => 2
  | _ => 0

theorem ev_congr {s' : S} {x : Operand} (h : ∀ t, x = .tmp t → s.fr t = s'.fr t) : ev G s x = ev G s' x := by
  cases x <;> simp only [ev]
  exact h _ rfl

theorem imm_mem {s' : S} (hb : s.bx = s'.bx) (hn : s.nb = s'.nb) : imm s = imm s' := by
  obtain ⟨fr, bx, nb⟩ := s
  obtain ⟨fr', bx', nb'⟩ := s'
  simp only at hb hn
  subst hb; subst hn
  funext x
  cases x <;> rfl

theorem vw_mem {s' : S} (hb : s.bx = s'.bx) (hn : s.nb = s'.nb) : vw s = vw s' := by
  obtain ⟨fr, bx, nb⟩ := s
  obtain ⟨fr', bx', nb'⟩ := s'
  simp only at hb hn
  subst hb; subst hn
  funext x
  cases x <;> rfl

theorem VYK_congr {s' : S} {K : V → Prop} (he : ∀ x ∈ o.op.operands, ev G s x = ev G s' x) (hm : opMem tr o ≠ 0 → s.bx = s'.bx ∧ s.nb = s'.nb) (h : VYK P G tr o s K) : VYK P G tr o s' K := by
  have marr : ∀ l : Array Operand, (∀ x ∈ l, ev G s x = ev G s' x) → l.toList.map (ev G s) = l.toList.map (ev G s') := fun l hl => List.map_congr_left fun x hx => hl x (by simpa using hx)
  have mopt : ∀ l : Option Operand, (∀ x, l = some x → ev G s x = ev G s' x) → l.map (ev G s) = l.map (ev G s') := fun l hl => by cases l with
    | none => rfl
    | some x => simp only [Option.map_some, hl x rfl]
  obtain ⟨dst, op, type, pos, after, guard⟩ := o
  cases op <;> simp only [VYK] at h ⊢ <;> try exact h
  case move x => rw [← he x (by simp [Op.operands])]; exact h
  case assign x => rw [← he x (by simp [Op.operands])]; exact h
  case pick c a b => rw [← he c (by simp [Op.operands]), ← he a (by simp [Op.operands]), ← he b (by simp [Op.operands])]; exact h
  case build T parts =>
    have : (parts.toList.map fun (i, x) => (i, ev G s' x)) = parts.toList.map fun (i, x) => (i, ev G s x) := List.map_congr_left fun p hp => by
      obtain ⟨i, x⟩ := p
      simp only [he x (by simp only [Op.operands, List.mem_toArray, List.mem_map]; exact ⟨(i, x), hp, rfl⟩)]
    rw [this]; exact h
  case buildSlice T len parts =>
    have : (parts.toList.map fun (i, x) => (i, ev G s' x)) = parts.toList.map fun (i, x) => (i, ev G s x) := List.map_congr_left fun p hp => by
      obtain ⟨i, x⟩ := p
      simp only [he x (by simp only [Op.operands, List.mem_toArray, List.mem_map]; exact ⟨(i, x), hp, rfl⟩)]
    rw [this]; exact h
  case load T x =>
    obtain ⟨h1, h2⟩ := hm (by simp [opMem])
    rw [← he x (by simp [Op.operands])]
    unfold vload at h ⊢
    rw [← h1, ← h2]; exact h
  case binOp op T x y yT => rw [← he x (by simp [Op.operands]), ← he y (by simp [Op.operands])]; exact h
  case unOp op T x => rw [← he x (by simp [Op.operands])]; exact h
  case convert src dst x =>
    obtain ⟨h1, h2⟩ := hm (by simp [opMem])
    rw [← he x (by simp [Op.operands]), ← vw_mem h1 h2]; exact h
  case makeFunc f a b => rw [← marr a fun x hx => he x (by simp [Op.operands, hx]), ← marr b fun x hx => he x (by simp [Op.operands, hx])]; exact h
  case slice T x lo hi mx =>
    rw [← he x (by simp [Op.operands]), ← mopt lo fun x hx => he x (by simp [Op.operands, hx]), ← mopt hi fun x hx => he x (by simp [Op.operands, hx]), ← mopt mx fun x hx => he x (by simp [Op.operands, hx])]; exact h
  case fieldAddr T x f => rw [← he x (by simp [Op.operands])]; exact h
  case field T x f => rw [← he x (by simp [Op.operands])]; exact h
  case indexAddr T x i => rw [← he x (by simp [Op.operands]), ← he i (by simp [Op.operands])]; exact h
  case index T x i => rw [← he x (by simp [Op.operands]), ← he i (by simp [Op.operands])]; exact h
  case extract x i => rw [← he x (by simp [Op.operands])]; exact h
  case call c =>
    obtain ⟨callee, args, ts⟩ := c
    cases callee with
    | value f =>
      simp only at h ⊢
      obtain ⟨h1, h2⟩ := hm (by simp only [opMem]; split <;> simp)
      rw [← he f (by simp [Op.operands, Call.operands]), ← marr args fun x hx => he x (by simp [Op.operands, Call.operands, hx])]
      unfold vcall at h ⊢
      rw [← imm_mem h1 h2]; exact h
    | invoke r m => exact h
    | builtin b =>
      cases b
      case append =>
        simp only at h ⊢
        obtain ⟨h1, h2⟩ := hm (by simp [opMem])
        have : (args.toList.map fun x => vw s' (ev G s' x)) = args.toList.map fun x => vw s (ev G s x) := List.map_congr_left fun x hx => by
          rw [vw_mem h1 h2, he x (by simp only [Op.operands, Call.operands]; simpa using hx)]
        rw [this]; exact h
      all_goals
        simp only at h ⊢
        rw [← marr args fun x hx => he x (by simp [Op.operands, Call.operands, hx])]; exact h

theorem VEf_congr {s' : S} {e : Ef} (he : ∀ x ∈ o.op.operands, ev G s x = ev G s' x) (hm : opMem tr o ≠ 0 → s.bx = s'.bx ∧ s.nb = s'.nb) (h : VEf P G tr o s e) : VEf P G tr o s' e := by
  unfold VEf at h ⊢
  split at h
  · exact h
  · rename_i T X hop
    rw [← he X (by rw [hop]; simp [Op.operands])]; exact h
  · rename_i T p X hop
    obtain ⟨h1, h2⟩ := hm (by simp [opMem, hop])
    rw [← he p (by rw [hop]; simp [Op.operands]), ← he X (by rw [hop]; simp [Op.operands]), ← h1, ← h2]; exact h
  · rename_i T len parts hop
    have : (parts.toList.map fun (i, x) => (i, ev G s' x)) = parts.toList.map fun (i, x) => (i, ev G s x) := List.map_congr_left fun p hp => by
      obtain ⟨i, x⟩ := p
      simp only [he x (by rw [hop]; simp only [Op.operands, List.mem_toArray, List.mem_map]; exact ⟨(i, x), hp, rfl⟩)]
    split at h
    · rename_i hn
      rw [if_pos hn]
      obtain ⟨h1, h2⟩ := hm (by simp [opMem, hop, hn])
      rw [this, ← h1, ← h2]; exact h
    · rename_i hn
      rw [if_neg hn]
      obtain ⟨v, h1, h2⟩ := h
      exact ⟨v, h1, VYK_congr he hm h2⟩
  · rename_i T l c hop
    obtain ⟨h1, h2⟩ := hm (by simp [opMem, hop])
    rw [← he l (by rw [hop]; simp [Op.operands]), ← he c (by rw [hop]; simp [Op.operands]), ← h1, ← h2]; exact h
  · rename_i f args ts hop
    split at h
    · rename_i hn
      rw [if_pos hn]
      obtain ⟨h1, h2⟩ := hm (by simp [opMem, hop, hn])
      have : args.toList.map (ev G s) = args.toList.map (ev G s') := List.map_congr_left fun x hx => he x (by rw [hop]; simp only [Op.operands, Call.operands]; simp at hx; simp [hx])
      rw [← he f (by rw [hop]; simp [Op.operands, Call.operands]), ← this, ← h1, ← h2]; exact h
    · rename_i hn
      rw [if_neg hn]
      obtain ⟨v, h1, h2⟩ := h
      exact ⟨v, h1, VYK_congr he hm h2⟩
  · obtain ⟨v, h1, h2⟩ := h
    exact ⟨v, h1, VYK_congr he hm h2⟩

def gval (ops : Array Oper) (o : Oper) (s : S) : Option Bool :=
  match o.guard with
  | none => some true
  | some (j, want) => match (ops[j]?).bind (·.dst) with
    | some d => match s.fr d with
      | .c (.lit (.bool p)) => some (p == want)
      | .sk => some false
      | _ => none
    | none => none

/-- The effect of an operation, carried out or passed over. -/
def TEf (P : Program) (G : Gl) (tr : List Nat) (ops : Array Oper) (o : Oper) (s : S) (e : Ef) : Prop :=
  (gval ops o s = some true ∧ VEf P G tr o s e ∧ e ≠ .skip) ∨ (gval ops o s = some false ∧ e = .skip)

theorem TEf_of_guard {K : S → Prop} (hAN : isAN tr o = false) (h : vguard ops o s (fun s => VStep P G tr o s K) (fun s => K (s.put o.dst .sk))) : ∃ e, TEf P G tr ops o s e ∧ K (e.run tr o s) := by
  unfold vguard at h
  have yes : gval ops o s = some true → VStep P G tr o s K → ∃ e, TEf P G tr ops o s e ∧ K (e.run tr o s) := fun hg hv => by
    obtain ⟨e, h1, h2, h3⟩ := hv.ef hAN
    exact ⟨e, .inl ⟨hg, h2, h1⟩, h3⟩
  have no : gval ops o s = some false → K (s.put o.dst .sk) → ∃ e, TEf P G tr ops o s e ∧ K (e.run tr o s) := fun hg hv => ⟨.skip, .inr ⟨hg, rfl⟩, by rw [run_skip]; exact hv⟩
  split at h
  · rename_i hg
    exact yes (by unfold gval; rw [hg]) h
  · rename_i j want hg
    split at h
    · rename_i d hd
      split at h
      · rename_i p hp
        by_cases hpw : p = want
        · subst hpw
          have := h.1 rfl
          rw [S.up_id hp] at this
          exact yes (by unfold gval; simp only [hg, hd, hp, beq_self_eq_true]) this
        · have hpn : p = !want := by cases p <;> cases want <;> simp_all
          have := h.2 hpn
          rw [← hpn, S.up_id hp] at this
          exact no (by unfold gval; simp only [hg, hd, hp]; simpa using hpw) this
      · rename_i hp
        exact no (by unfold gval; simp only [hg, hd, hp]) h
      · exact h.elim
    · exact h.elim

theorem gval_wanted (hst : St G n I0 M w0 I β ob s a w) {p : Bool} (h : gval ops o s = some p) : Region.wanted o (yielded ops a.tmps) = p := by
  unfold gval at h
  unfold Region.wanted
  split at h
  · rename_i hg; rw [hg]; simpa using h
  · rename_i j want hg
    rw [hg]
    split at h
    · rename_i d hd
      split at h
      · rename_i q hq
        simp only [yielded_bool hst hd hq]
        simp only [Option.some.injEq] at h
        rw [← h]; cases q <;> cases want <;> rfl
      · rename_i hq
        simp only [yielded_sk hst hd hq]
        simp only [Option.some.injEq] at h
        rw [← h]; rfl
      · cases h
    · cases h

/-- The operation number i comes up. -/
def vopI (P : Program) (G : Gl) (tr : List Nat) (ops : Array Oper) (i : Nat) (K : S → Prop) (s : S) : Prop :=
  match ops[i]? with
  | none => K s
  | some o => ∃ e, TEf P G tr ops o s e ∧ K (e.run tr o s)

theorem vopI_mono {i : Nat} {K K' : S → Prop} (h : ∀ s, K s → K' s) (hh : vopI P G tr ops i K s) : vopI P G tr ops i K' s := by
  unfold vopI at *
  split
  · simp_all
  · rename_i ho
    simp only [ho] at hh
    obtain ⟨e, h1, h2⟩ := hh
    exact ⟨e, h1, h _ h2⟩

/-- Whatever order is picked from here on. -/
def vAny (P : Program) (G : Gl) (tr : List Nat) (md : Region.Mode) (ops : Array Oper) (K : S → Prop) : Nat → Array Bool → S → Prop
  | 0, listed, s => Region.ready md ops listed = [] ∧ K s
  | fuel + 1, listed, s =>
    (Region.ready md ops listed = [] → K s) ∧
    ∀ i ∈ Region.ready md ops listed, vopI P G tr ops i (vAny P G tr md ops K fuel (listed.setIfInBounds i true)) s

theorem vAny_sound (hok : dstOk n ops = true) {K : S → Prop} (hK : ∀ a w s, K s → SE G n I0 M w0 s a w → Q .normal a w) : ∀ (fuel : Nat) (listed : Array Bool) (s : S) (a : Act) (w : World),
    vAny P G tr md ops K fuel listed s → SE G n I0 M w0 s a w → wpAny P md ops Q fuel listed a w
  | 0, _, _, _, _, h, hse => ⟨h.1, hK _ _ _ h.2 hse⟩
  | fuel + 1, _, s, a, w, h, hse => by
    refine ⟨fun h0 => hK _ _ _ (h.1 h0) hse, fun i hi => ?_⟩
    have hh := h.2 i hi
    unfold vopI at hh
    unfold wpOp
    split
    · rename_i ho; simp only [ho] at hh; exact vAny_sound hok hK fuel _ s a w hh hse
    · rename_i o ho
      simp only [ho] at hh
      obtain ⟨e, he, hh⟩ := hh
      have hmem : o ∈ ops.toList := by
        have := Array.mem_of_getElem? ho
        simpa using this
      obtain ⟨I, β, ob, hst⟩ := hse
      rcases he with ⟨hg, hv, _⟩ | ⟨hg, rfl⟩
      · rw [if_pos (gval_wanted hst hg)]
        exact .inl (VEf_sound hst (dstOk_spec hok hmem) hv fun a' w' hse' => vAny_sound hok hK fuel _ _ a' w' hh hse')
      · rw [gval_wanted hst hg]
        simp only [Bool.false_eq_true, if_false]
        rw [run_skip] at hh
        exact vAny_sound hok hK fuel _ _ _ w hh (SE.put hst (dstOk_spec hok hmem) (by simp only [LR]; exact .sk))

/-! ### Two operations that have nothing to do with each other -/

def wr (tr : List Nat) (o : Oper) : List Tmp := o.dst.toList ++ (consT tr o).toList

def apartV (tr : List Nat) (ops : Array Oper) (x y : Oper) : Bool :=
  ((wr tr x).all fun d => !(y.looksAt ops).contains d && !(wr tr y).contains d) && ((wr tr y).all fun d => !(x.looksAt ops).contains d) &&
  ((opMem tr x != 2 || opMem tr y == 0) && (opMem tr y != 2 || opMem tr x == 0))

structure Apart (tr : List Nat) (ops : Array Oper) (x y : Oper) : Prop where
  xy : ∀ d ∈ wr tr x, d ∉ y.looksAt ops
  ww : ∀ d ∈ wr tr x, d ∉ wr tr y
  yx : ∀ d ∈ wr tr y, d ∉ x.looksAt ops
  mx : opMem tr x = 2 → opMem tr y = 0
  my : opMem tr y = 2 → opMem tr x = 0

theorem apartV_spec {x y : Oper} (h : apartV tr ops x y = true) : Apart tr ops x y := by
  simp only [apartV, Bool.and_eq_true, List.all_eq_true, Bool.not_eq_true', List.contains_eq_mem, decide_eq_false_iff_not, Bool.or_eq_true, bne_iff_ne, beq_iff_eq] at h
  obtain ⟨⟨h1, h2⟩, h3, h4⟩ := h
  exact ⟨fun d hd => (h1 d hd).1, fun d hd => (h1 d hd).2, h2, fun h => h3.resolve_left (fun hn => hn h), fun h => h4.resolve_left (fun hn => hn h)⟩

def slotF (tr : List Nat) (o : Oper) (u : Bool) (x : V) (fr : Nat → V) : Nat → V := putF o.dst x (useF u (consT tr o) fr)

theorem useF_apply (u : Bool) (c : Option Tmp) (fr : Nat → V) (t : Nat) : useF u c fr t = if c = some t ∧ u = true ∧ (fr t).isOw = true then .un else fr t := by
  unfold useF
  cases c with
  | none => simp
  | some q =>
    simp only
    by_cases hq : q = t
    · subst hq
      by_cases h : u = true ∧ (fr q).isOw = true
      · rw [if_pos (by simp [h.1, h.2]), up_same, if_pos ⟨rfl, h⟩]
      · rw [if_neg (by simpa using h), if_neg (fun e => h e.2)]
    · have : ¬ (some q = some t ∧ u = true ∧ (fr t).isOw = true) := fun e => hq (by simpa using e.1)
      rw [if_neg this]
      split
      · rw [up_ne _ _ (Ne.symm hq)]
      · rfl

theorem slotF_apply (u : Bool) (x : V) (fr : Nat → V) (t : Nat) : slotF tr o u x fr t = if o.dst = some t then x else if consT tr o = some t ∧ u = true ∧ (fr t).isOw = true then .un else fr t := by
  unfold slotF putF
  cases o.dst with
  | none => simpa using useF_apply u (consT tr o) fr t
  | some d =>
    simp only
    by_cases hd : d = t
    · subst hd; simp
    · rw [up_ne _ _ (Ne.symm hd), if_neg (by simpa using hd)]
      exact useF_apply u (consT tr o) fr t

theorem slotF_other {u : Bool} {x : V} {fr : Nat → V} {t : Nat} (h : t ∉ wr tr o) : slotF tr o u x fr t = fr t := by
  simp only [wr, List.mem_append, Option.mem_toList, not_or] at h
  rw [slotF_apply, if_neg h.1, if_neg (fun e => h.2 e.1)]

theorem slotF_comm {x y : Oper} (h : ∀ d ∈ wr tr x, d ∉ wr tr y) (u u' : Bool) (vx vy : V) (fr : Nat → V) :
    slotF tr y u' vy (slotF tr x u vx fr) = slotF tr x u vx (slotF tr y u' vy fr) := by
  funext t
  by_cases hx : t ∈ wr tr x
  · rw [slotF_other (h t hx), slotF_apply, slotF_apply, slotF_other (h t hx)]
  · have e1 : slotF tr x u vx fr t = fr t := slotF_other hx
    have e2 : slotF tr x u vx (slotF tr y u' vy fr) t = slotF tr y u' vy fr t := slotF_other hx
    rw [e2, slotF_apply (o := y), e1, slotF_apply (o := y)]

theorem run_eq (e : Ef) : e.run tr o s = ⟨slotF tr o e.uses (e.val s.nb) s.fr, e.bx s.nb s.bx, e.nb s.nb⟩ := rfl

theorem VEf_mem {e : Ef} (h : VEf P G tr o s e) (hm : opMem tr o ≠ 2) : ∃ v, e = .v v := by
  unfold VEf at h
  split at h
  · rename_i hop; simp [opMem, hop] at hm
  · rename_i hop; simp [opMem, hop] at hm
  · rename_i hop; simp [opMem, hop] at hm
  · rename_i hop
    split at h
    · rename_i hn; simp [opMem, hop, hn] at hm
    · obtain ⟨v, rfl, _⟩ := h; exact ⟨v, rfl⟩
  · rename_i hop; simp [opMem, hop] at hm
  · rename_i hop
    split at h
    · rename_i hn; simp [opMem, hop, hn] at hm
    · obtain ⟨v, rfl, _⟩ := h; exact ⟨v, rfl⟩
  · obtain ⟨v, rfl, _⟩ := h; exact ⟨v, rfl⟩

theorem TEf_mem {e : Ef} (h : TEf P G tr ops o s e) (hm : opMem tr o ≠ 2) : (∃ v, e = .v v) ∨ e = .skip := by
  rcases h with ⟨_, h, _⟩ | ⟨_, h⟩
  · exact .inl (VEf_mem h hm)
  · exact .inr h

theorem quiet_mem {e : Ef} (h : (∃ v, e = .v v) ∨ e = .skip) (bx : Nat → List V) (nb nb' : Nat) : e.bx nb bx = bx ∧ e.nb nb = nb ∧ e.val nb = e.val nb' := by
  rcases h with ⟨v, rfl⟩ | rfl <;> exact ⟨rfl, rfl, rfl⟩

theorem gval_congr {s' : S} (h : ∀ t ∈ o.looksAt ops, s.fr t = s'.fr t) : gval ops o s = gval ops o s' := by
  unfold gval
  split
  · rfl
  · rename_i j want hg
    split
    · rename_i d hd
      have : d ∈ o.looksAt ops := by
        unfold Oper.looksAt
        rw [hg]
        simp only [List.mem_append, Option.mem_toList]
        exact .inr hd
      rw [h d this]
    · rfl

theorem operand_looks {x : Operand} {t : Tmp} (hx : x ∈ o.op.operands) (ht : x = .tmp t) : t ∈ o.looksAt ops := by
  unfold Oper.looksAt
  simp only [List.mem_append, List.mem_filterMap]
  exact .inl ⟨x, by simpa using hx, by rw [ht]⟩

theorem TEf_congr {s' : S} {e : Ef} (hl : ∀ t ∈ o.looksAt ops, s.fr t = s'.fr t) (hm : opMem tr o ≠ 0 → s.bx = s'.bx ∧ s.nb = s'.nb) (h : TEf P G tr ops o s e) : TEf P G tr ops o s' e := by
  rcases h with ⟨h1, h2, h3⟩ | ⟨h1, h2⟩
  · exact .inl ⟨by rw [← gval_congr hl]; exact h1, VEf_congr (fun x hx => ev_congr fun t ht => hl t (operand_looks hx ht)) hm h2, h3⟩
  · exact .inr ⟨by rw [← gval_congr hl]; exact h1, h2⟩

/-- The state behind y, as x sees it. -/
theorem TEf.keep {x y : Oper} {e f : Ef} (hap : Apart tr ops x y) (hx : TEf P G tr ops x s e) (hy : TEf P G tr ops y s f) : TEf P G tr ops x (f.run tr y s) e := by
  refine TEf_congr (fun t ht => ?_) (fun hm => ?_) hx
  · rw [run_eq]
    simp only
    rw [slotF_other (fun hw => hap.yx t hw ht)]
  · have hq := TEf_mem hy (fun h => hm (hap.my h))
    obtain ⟨q1, q2, _⟩ := quiet_mem hq s.bx s.nb 0
    exact ⟨q1.symm, q2.symm⟩

theorem TEf.back {x y : Oper} {e f : Ef} (hap : Apart tr ops x y) (hx : TEf P G tr ops x s e) (hy : TEf P G tr ops y (e.run tr x s) f) : TEf P G tr ops y s f := by
  refine TEf_congr (fun t ht => ?_) (fun hm => ?_) hy
  · rw [run_eq]
    simp only
    rw [slotF_other (fun hw => hap.xy t hw ht)]
  · have hq := TEf_mem hx (fun h => hm (hap.mx h))
    obtain ⟨q1, q2, _⟩ := quiet_mem hq s.bx s.nb 0
    exact ⟨q1, q2⟩

theorem run_comm {x y : Oper} {e f : Ef} (hap : Apart tr ops x y) (hx : TEf P G tr ops x s e) (hy : TEf P G tr ops y s f) : f.run tr y (e.run tr x s) = e.run tr x (f.run tr y s) := by
  simp only [run_eq]
  by_cases h2 : opMem tr x = 2
  · have hq := TEf_mem hy (fun h => by rw [hap.mx h2] at h; cases h)
    obtain ⟨q1, q2, q3⟩ := quiet_mem hq (e.bx s.nb s.bx) (e.nb s.nb) s.nb
    obtain ⟨r1, r2, _⟩ := quiet_mem hq s.bx s.nb s.nb
    rw [q1, q2, q3, r1, r2, slotF_comm hap.ww]
  · have hq := TEf_mem hx h2
    obtain ⟨q1, q2, q3⟩ := quiet_mem hq (f.bx s.nb s.bx) (f.nb s.nb) s.nb
    obtain ⟨r1, r2, _⟩ := quiet_mem hq s.bx s.nb s.nb
    rw [q1, q2, q3, r1, r2, slotF_comm hap.ww]

/-- An operation that may come up now may be taken first. -/
theorem vAny_first {K : S → Prop} {i : Nat} {oi : Oper} {e : Ef} (hi : ops[i]? = some oi) :
    ∀ (fuel : Nat) (listed : Array Bool) (s : S),
      (∀ j oj, ops[j]? = some oj → j ≠ i → listed.getD j true = false → (∀ e ∈ oj.after, Region.binds md e = true → e.on ≠ i) → apartV tr ops oi oj = true) →
      i ∈ Region.ready md ops listed → TEf P G tr ops oi s e →
      vAny P G tr md ops K fuel (listed.setIfInBounds i true) (e.run tr oi s) → vAny P G tr md ops K (fuel + 1) listed s := by
  intro fuel
  induction fuel with
  | zero =>
    intro listed s _ hr hy H
    refine ⟨fun h => (by rw [h] at hr; cases hr), fun j hj => ?_⟩
    by_cases hji : j = i
    · subst hji; unfold vopI; simp only [hi]; exact ⟨e, hy, H⟩
    · have := ready_mono hj hji
      rw [H.1] at this
      cases this
  | succ fuel ih =>
    intro listed s hfree hr hy H
    refine ⟨fun h => (by rw [h] at hr; cases hr), fun j hj => ?_⟩
    by_cases hji : j = i
    · subst hji; unfold vopI; simp only [hi]; exact ⟨e, hy, H⟩
    · have h1 := H.2 j (ready_mono hj hji)
      obtain ⟨hjun, oj, hoj, hall⟩ := mem_ready.1 hj
      have hnot : ∀ e ∈ oj.after, Region.binds md e = true → e.on ≠ i := fun e he hb heq => by
        have h1 := hall e he hb
        have h0 := (mem_ready.1 hr).1
        rw [heq] at h1
        rcases Nat.lt_or_ge i listed.size with h' | h'
        · simp [h'] at h0 h1; rw [h0] at h1; cases h1
        · simp [Array.getElem?_eq_none h'] at h1
      have hap := apartV_spec (hfree j oj hoj hji hjun hnot)
      unfold vopI at h1 ⊢
      simp only [hoj] at h1 ⊢
      obtain ⟨f, hf, hK⟩ := h1
      have hf' := hy.back hap hf
      refine ⟨f, hf', ih (listed.setIfInBounds j true) _ (fun k ok hk hki hun hno => ?_) (ready_mono hr (Ne.symm hji)) (hy.keep hap hf') ?_⟩
      · refine hfree k ok hk hki ?_ hno
        by_cases hjk : j = k
        · subst hjk; exact hjun
        · rw [Go.getD_set_ne true hjk] at hun; exact hun
      · rw [Array.setIfInBounds_comm _ _ hji, ← run_comm hap hy hf']
        exact hK

def freeV (tr : List Nat) (ops : Array Oper) (listed : Array Bool) (i : Nat) : Bool :=
  match ops[i]? with
  | none => true
  | some oi => (List.range ops.size).all fun j => match ops[j]? with
    | none => true
    | some oj => j == i || listed.getD j true || (oj.after.any fun e => Region.binds .any e && e.on == i) || apartV tr ops oi oj

theorem freeV_spec {i : Nat} {oi : Oper} {listed : Array Bool} (hi : ops[i]? = some oi) (h : freeV tr ops listed i = true) (j : Nat) (oj : Oper) (hj : ops[j]? = some oj) (hji : j ≠ i)
    (hl : listed.getD j true = false) (hno : ∀ e ∈ oj.after, Region.binds .any e = true → e.on ≠ i) : apartV tr ops oi oj = true := by
  unfold freeV at h
  simp only [hi, List.all_eq_true, List.mem_range] at h
  have hlt : j < ops.size := (Array.getElem?_eq_some_iff.1 hj).1
  have := h j hlt
  simp only [hj, hl, Bool.or_eq_true, beq_iff_eq, hji, false_or, Bool.false_eq_true] at this
  rcases this with h1 | h1
  · rw [Array.any_eq_true'] at h1
    obtain ⟨e, he, h2⟩ := h1
    simp only [Bool.and_eq_true, beq_iff_eq] at h2
    exact absurd h2.2 (hno e he h2.1)
  · exact h1

def lexFromV (tr : List Nat) (ops : Array Oper) : Nat → Nat → Array Bool → Bool
  | 0, _, listed => (Region.ready .any ops listed).isEmpty
  | fuel + 1, k, listed => (Region.ready .any ops listed).contains k && freeV tr ops listed k && lexFromV tr ops fuel (k + 1) (listed.setIfInBounds k true)

/-- One order serves every order. -/
def drawOk (tr : List Nat) (ops : Array Oper) : Bool := ops.toList.all (fun o => !isAN tr o) && lexFromV tr ops ops.size 0 (Array.replicate ops.size false)

theorem vAny_lex {K : S → Prop} : ∀ (l : List Oper) (k : Nat) (listed : Array Bool) (s : S), (∀ o ∈ l, isAN tr o = false) → (∀ j, l[j]? = ops[k + j]?) →
    lexFromV tr ops l.length k listed = true → vops P G tr ops l s K → vAny P G tr .any ops K l.length listed s
  | [], _, _, _, _, _, hB, h => ⟨by simpa [lexFromV] using hB, h⟩
  | o :: l, k, listed, s, hA, hl, hB, h => by
    have h0 : ops[k]? = some o := by simpa using (hl 0).symm
    simp only [List.length_cons, lexFromV, Bool.and_eq_true] at hB
    obtain ⟨⟨hr, hf⟩, hB'⟩ := hB
    simp only [vops] at h
    obtain ⟨e, he, hK⟩ := TEf_of_guard (K := fun s' => vops P G tr ops l s' K) (hA o (List.mem_cons_self ..)) h
    exact vAny_first h0 l.length listed s (freeV_spec h0 hf) (by simpa using hr) he
      (vAny_lex l (k + 1) _ _ (fun o ho => hA o (List.mem_cons_of_mem _ ho)) (fun j => by have := hl (j + 1); simpa [Nat.add_assoc, Nat.add_comm 1 j] using this) hB' hK)

theorem region_draw_sound {id : Nat} (hm : P.follows .mixedOrders = true) (hok : dstOk n ops = true) (hdr : drawOk tr ops = true) {K : S → Prop} (hK : ∀ a w s, K s → SE G n I0 M w0 s a w → Q .normal a w)
    (h : vops P G tr ops ops.toList s K) (hse : SE G n I0 M w0 s a w) : (Code.region id ops true).wp P Q a w := by
  refine wp_region_any hm ?_
  simp only [drawOk, Bool.and_eq_true, List.all_eq_true, Bool.not_eq_true'] at hdr
  have h1 := vAny_lex (K := K) ops.toList 0 (Array.replicate ops.size false) s hdr.1 (by simp) (by simpa using hdr.2) h
  have hse' : SE G n I0 M w0 s a { w with drawn := w.drawn + 1 } := by
    obtain ⟨I, β, ob, hst⟩ := hse
    exact ⟨I, β, ob, hst.drew⟩
  have := vAny_sound hok hK _ _ _ _ _ h1 hse'
  simpa using this

end
end Go.Vl
