/-
  Part of the proof: the machine that runs a program by fixed orders, and that each of its runs is a run of the model; or a run of it in parts. No conditions.
-/
import Derived.Test.YtjaogllgillaiaaGreatDoorIdVec
namespace Go.Ideal

/-! Other names for blocks. -/
abbrev Ren := Nat → Option Nat
def renL (f : Value → Option Value) : List Value → Option (List Value)
  | [] => some []
  | v :: l => match f v, renL f l with
    | some w, some m => some (w :: m)
    | _, _ => none
def renA (ρ : Ren) : Addr → Option Addr
  | ⟨b, o, s⟩ => match ρ b with
    | some i => some ⟨i, o, s⟩
    | none => none
def renN (ρ : Ren) : Nat → Value → Option Value
  | 0, _ => none
  | n + 1, v => match v with
    | .bool b => some (.bool b)
    | .int k m => some (.int k m)
    | .float k m => some (.float k m)
    | .string s => some (.string s)
    | .pointer none => some (.pointer none)
    | .pointer (some a) => (renA ρ a).map fun a => .pointer (some a)
    | .slice none l c => some (.slice none l c)
    | .slice (some a) l c => (renA ρ a).map fun a => .slice (some a) l c
    | .map none => some (.map none)
    | .map (some b) => (ρ b).map fun b => .map (some b)
    | .nilFunc => some .nilFunc
    | .nilIface => some .nilIface
    | .iface t v => (renN ρ n v).map fun v => .iface t v
    | .agg cs => (renL (renN ρ n) cs.toList).map fun l => .agg ⟨l⟩
    | .tuple cs => (renL (renN ρ n) cs.toList).map fun l => .tuple ⟨l⟩
    | .func (.func f) xs ys => match renL (renN ρ n) xs.toList, renL (renN ρ n) ys.toList with
      | some a, some b => some (.func (.func f) ⟨a⟩ ⟨b⟩)
      | _, _ => none
    | .chan (some 0) => some (.chan (some 0))
    | _ => none
abbrev renV (ρ : Ren) (v : Value) : Option Value := renN ρ 6 v

section
variable {ρ : Ren} {μ ν : Inj}
theorem renL_fwd {f : Value → Option Value} (hf : ∀ v v1 v', f v = some v1 → VRel μ v v' → VRel ν v1 v') : ∀ (l l1 l' : List Value), renL f l = some l1 → LRel μ l l' → LRel ν l1 l'
  | [], _, _, h, hl => by cases h; cases hl; exact .nil
  | v :: l, l1, _, h, hl => by
    cases hl with
    | cons h1 h2 =>
      simp only [renL] at h
      split at h
      · rename_i w m e1 e2
        cases h
        exact .cons (hf _ _ _ e1 h1) (renL_fwd hf l m _ e2 h2)
      · cases h
theorem renL_bwd {f : Value → Option Value} (hf : ∀ v v1 v', f v = some v1 → VRel ν v1 v' → VRel μ v v') : ∀ (l l1 l' : List Value), renL f l = some l1 → LRel ν l1 l' → LRel μ l l'
  | [], _, _, h, hl => by cases h; cases hl; exact .nil
  | v :: l, l1, l', h, hl => by
    simp only [renL] at h
    split at h
    · rename_i w m e1 e2
      cases h
      cases hl with
      | cons h1 h2 => exact .cons (hf _ _ _ e1 h1) (renL_bwd hf l m _ e2 h2)
    · cases h
theorem renA_eq {a a1 : Addr} (h : renA ρ a = some a1) : ∃ b o s i, a = ⟨b, o, s⟩ ∧ ρ b = some i ∧ a1 = ⟨i, o, s⟩ := by
  obtain ⟨b, o, s⟩ := a
  unfold renA at h
  simp only at h
  split at h
  · rename_i i e; cases h; exact ⟨b, o, s, i, rfl, e, rfl⟩
  · cases h

theorem ren_fwd (hρ : ∀ b i T, ρ b = some i → μ b = some T → ν i = some T) : ∀ (n : Nat) (v v1 v' : Value), renN ρ n v = some v1 → VRel μ v v' → VRel ν v1 v' := by
  intro n
  induction n with
  | zero => intro v v1 v' h; cases h
  | succ n ih =>
    intro v v1 v' h hr
    cases hr with
    | junk => simp only [renN, junk, Option.some.injEq] at h; subst h; exact .junk _
    | bool b => cases h; exact .bool b
    | int k m => cases h; exact .int k m
    | float k m => cases h; exact .float k m
    | string s => cases h; exact .string s
    | nilptr => cases h; exact .nilptr
    | nilslice l c => cases h; exact .nilslice l c
    | nilmap => cases h; exact .nilmap
    | nilFunc => cases h; exact .nilFunc
    | nilIface => cases h; exact .nilIface
    | ptr b o T hm =>
      simp only [renN, Option.map_eq_some_iff] at h
      obtain ⟨a, ha, rfl⟩ := h
      obtain ⟨b1, o1, s1, i, e1, e2, rfl⟩ := renA_eq ha
      cases e1
      exact .ptr i o T (hρ _ _ _ e2 hm)
    | vptr b o j T hm =>
      simp only [renN, Option.map_eq_some_iff] at h
      obtain ⟨a, ha, rfl⟩ := h
      obtain ⟨b1, o1, s1, i, e1, e2, rfl⟩ := renA_eq ha
      cases e1
      exact .vptr i o j T (hρ _ _ _ e2 hm)
    | slice b o l c c' o' T hm hc ho =>
      simp only [renN, Option.map_eq_some_iff] at h
      obtain ⟨a, ha, rfl⟩ := h
      obtain ⟨b1, o1, s1, i, e1, e2, rfl⟩ := renA_eq ha
      cases e1
      exact .slice i o l c c' o' T (hρ _ _ _ e2 hm) hc ho
    | vslice b j l c c' o' T hm hc ho =>
      simp only [renN, Option.map_eq_some_iff] at h
      obtain ⟨a, ha, rfl⟩ := h
      obtain ⟨b1, o1, s1, i, e1, e2, rfl⟩ := renA_eq ha
      cases e1
      exact .vslice i j l c c' o' T (hρ _ _ _ e2 hm) hc ho
    | map b T hm =>
      simp only [renN, Option.map_eq_some_iff] at h
      obtain ⟨i, hi, rfl⟩ := h
      exact .map i T (hρ _ _ _ hi hm)
    | iface t a a' ha =>
      simp only [renN, Option.map_eq_some_iff] at h
      obtain ⟨w, hw, rfl⟩ := h
      exact .iface t w a' (ih _ _ _ hw ha)
    | agg xs xs' hx ex =>
      obtain ⟨ys, he, hl⟩ := VRel.agg_iff.1 (.agg xs xs' hx ex)
      cases he
      simp only [renN, Option.map_eq_some_iff] at h
      obtain ⟨l, hl1, rfl⟩ := h
      exact VRel.agg_iff.2 ⟨_, rfl, renL_fwd ih _ _ _ hl1 hl⟩
    | tuple xs xs' hx ex =>
      obtain ⟨ys, he, hl⟩ := VRel.tuple_iff.1 (.tuple xs xs' hx ex)
      cases he
      simp only [renN, Option.map_eq_some_iff] at h
      obtain ⟨l, hl1, rfl⟩ := h
      exact VRel.tuple_iff.2 ⟨_, rfl, renL_fwd ih _ _ _ hl1 hl⟩
    | func fn fn' xs xs' ys ys' hf hx ex hy ey =>
      obtain ⟨fn2, xs2, ys2, he, hf2, hx2, hy2⟩ := VRel.func_iff.1 (.func fn fn' xs xs' ys ys' hf hx ex hy ey)
      cases he
      cases hf2 with
      | func f =>
        simp only [renN] at h
        split at h
        · rename_i a b e1 e2
          cases h
          exact VRel.func_iff.2 ⟨_, _, _, rfl, .func f, renL_fwd ih _ _ _ e1 hx2, renL_fwd ih _ _ _ e2 hy2⟩
        · cases h
      | _ => simp [renN] at h
theorem ren_bwd (hρ : ∀ b i T, ρ b = some i → ν i = some T → μ b = some T) : ∀ (n : Nat) (v v1 v' : Value), renN ρ n v = some v1 → VRel ν v1 v' → VRel μ v v' := by
  intro n
  induction n with
  | zero => intro v v1 v' h; cases h
  | succ n ih =>
    intro v v1 v' h hr
    unfold renN at h
    split at h
    · cases h; cases hr; exact .bool _
    · cases h; cases hr; exact .int _ _
    · cases h; cases hr; exact .float _ _
    · cases h; cases hr; exact .string _
    · cases h; cases hr; exact .nilptr
    · simp only [Option.map_eq_some_iff] at h
      obtain ⟨a, ha, rfl⟩ := h
      obtain ⟨b1, o1, s1, i, rfl, e2, rfl⟩ := renA_eq ha
      cases hr with
      | ptr _ _ T hm => exact .ptr b1 _ T (hρ _ _ _ e2 hm)
      | vptr _ _ j T hm => exact .vptr b1 _ j T (hρ _ _ _ e2 hm)
    · cases h; cases hr; exact .nilslice _ _
    · simp only [Option.map_eq_some_iff] at h
      obtain ⟨a, ha, rfl⟩ := h
      obtain ⟨b1, o1, s1, i, rfl, e2, rfl⟩ := renA_eq ha
      cases hr with
      | slice _ _ _ _ c' o' T hm hc ho => exact .slice b1 _ _ _ c' o' T (hρ _ _ _ e2 hm) hc ho
      | vslice _ j _ _ c' o' T hm hc ho => exact .vslice b1 j _ _ c' o' T (hρ _ _ _ e2 hm) hc ho
    · cases h; cases hr; exact .nilmap
    · simp only [Option.map_eq_some_iff] at h
      obtain ⟨i, hi, rfl⟩ := h
      cases hr with
      | map _ T hm => exact .map _ T (hρ _ _ _ hi hm)
    · cases h; cases hr; exact .nilFunc
    · cases h; cases hr; exact .nilIface
    · simp only [Option.map_eq_some_iff] at h
      obtain ⟨w, hw, rfl⟩ := h
      cases hr with
      | iface _ _ a' ha => exact .iface _ _ a' (ih _ _ _ hw ha)
    · simp only [Option.map_eq_some_iff] at h
      obtain ⟨l, hl, rfl⟩ := h
      obtain ⟨ys, rfl, hl2⟩ := VRel.agg_iff.1 hr
      exact VRel.agg_iff.2 ⟨_, rfl, renL_bwd ih _ _ _ hl hl2⟩
    · simp only [Option.map_eq_some_iff] at h
      obtain ⟨l, hl, rfl⟩ := h
      obtain ⟨ys, rfl, hl2⟩ := VRel.tuple_iff.1 hr
      exact VRel.tuple_iff.2 ⟨_, rfl, renL_bwd ih _ _ _ hl hl2⟩
    · split at h
      · rename_i a b e1 e2
        cases h
        obtain ⟨fn2, xs2, ys2, rfl, hf2, hx2, hy2⟩ := VRel.func_iff.1 hr
        cases hf2
        exact VRel.func_iff.2 ⟨_, _, _, rfl, .func _, renL_bwd ih _ _ _ e1 hx2, renL_bwd ih _ _ _ e2 hy2⟩
      · cases h
    · exact .junk _
    · cases h

def noTok : SK → Bool
  | .tok => false
  | _ => true
/-- Objects under other names. -/
def renO (ρ : Ren) : IObj → Option IObj
  | .cells cs e ro => (renL (renV ρ) cs).map fun l => .cells l e ro
  | .vec k l ro => bif k.all noTok then some (.vec k l ro) else none
  | .abs a ro => some (.abs a ro)
  | _ => none
theorem renL_length {f : Value → Option Value} : ∀ (l l1 : List Value), renL f l = some l1 → l1.length = l.length
  | [], _, h => by cases h; rfl
  | v :: l, l1, h => by
    simp only [renL] at h
    split at h
    · rename_i w m e1 e2; cases h; simp [renL_length l m e2]
    · cases h
theorem SK.enc_flat (s : SK) (hs : noTok s = true) (x : s.C) : flat (s.enc x) = true := by
  cases s <;> first | rfl | cases hs
theorem EK.enc_flat : ∀ (k : EK), k.all noTok = true → ∀ (x : EK.C k), ∀ v ∈ EK.enc k x, flat v = true
  | [], _, _, v, h => by cases h
  | [s], hk, x, v, h => by
    simp only [EK.enc, List.mem_singleton] at h
    subst h
    exact SK.enc_flat s (by simpa using hk) x
  | s :: t :: r, hk, x, v, h => by
    simp only [EK.enc, List.mem_cons] at h
    simp only [List.all_cons, Bool.and_eq_true] at hk
    rcases h with rfl | h
    · exact SK.enc_flat s hk.1 _
    · exact EK.enc_flat (t :: r) (by simpa using hk.2) x.2 v (by simpa using h)
theorem flats_any : ∀ (l : List Value), (∀ v ∈ l, flat v = true) → ∀ l', LRel μ l l' → LRel ν l l'
  | [], _, _, h => by cases h; exact .nil
  | v :: l, hf, _, h => by
    cases h with
    | cons h1 h2 =>
      have := flat_eq (hf v (by simp)) h1
      subst this
      exact .cons (flat_refl (hf _ (by simp))) (flats_any l (fun w hw => hf w (by simp [hw])) _ h2)
theorem encL_flat {k : EK} (hk : k.all noTok = true) (l : List (EK.C k)) : ∀ v ∈ encL k l, flat v = true := by
  intro v hv
  simp only [encL, List.mem_flatMap] at hv
  obtain ⟨x, _, hx⟩ := hv
  exact EK.enc_flat k hk x v hx
theorem renO_fwd (hρ : ∀ b i T, ρ b = some i → μ b = some T → ν i = some T) {o o1 : IObj} {T : Tgt} {o' : Obj} (h : renO ρ o = some o1) (hr : ORel μ T o o') : ORel ν T o1 o' := by
  unfold renO at h
  split at h
  · simp only [Option.map_eq_some_iff] at h
    obtain ⟨l, hl, rfl⟩ := h
    cases hr with
    | cells _ _ _ c t lo hi he hc hr hf =>
      have := renL_length _ _ hl
      exact .cells T l _ _ c t lo hi he (by rw [this]; exact renL_fwd (ren_fwd hρ 6) _ _ _ hl hc) hr hf
  · rename_i k l ro
    cases hk : k.all noTok
    · simp [hk] at h
    · simp only [hk, cond_true, Option.some.injEq] at h
      subst h
      cases hr with
      | vec _ _ _ _ hc => cases hc with
        | cells _ _ _ c t lo hi he hc hr hf => exact .vec T _ _ _ _ (.cells T _ _ _ c t lo hi he (flats_any _ (encL_flat hk l) _ hc) hr hf)
  · cases h; cases hr; exact .abs T _ _ _
  · cases h
theorem renO_bwd (hρ : ∀ b i T, ρ b = some i → ν i = some T → μ b = some T) {o o1 : IObj} {T : Tgt} {o' : Obj} (h : renO ρ o = some o1) (hr : ORel ν T o1 o') : ORel μ T o o' := by
  unfold renO at h
  split at h
  · simp only [Option.map_eq_some_iff] at h
    obtain ⟨l, hl, rfl⟩ := h
    cases hr with
    | cells _ _ _ c t lo hi he hc hr hf =>
      have := renL_length _ _ hl
      exact .cells T _ _ _ c t lo hi he (by rw [← this]; exact renL_bwd (ren_bwd hρ 6) _ _ _ hl hc) hr hf
  · rename_i k l ro
    cases hk : k.all noTok
    · simp [hk] at h
    · simp only [hk, cond_true, Option.some.injEq] at h
      subst h
      cases hr with
      | vec _ _ _ _ hc => cases hc with
        | cells _ _ _ c t lo hi he hc hr hf => exact .vec T _ _ _ _ (.cells T _ _ _ c t lo hi he (flats_any _ (encL_flat hk l) _ hc) hr hf)
  · cases h; cases hr; exact .abs T _ _ _
  · cases h
theorem renO_ro {o o1 : IObj} (h : renO ρ o = some o1) : o1.ro = o.ro ∧ o1.isAbs = o.isAbs ∧ ∀ a ro, o1 = .abs a ro → o = .abs a ro := by
  unfold renO at h
  split at h
  · simp only [Option.map_eq_some_iff] at h
    obtain ⟨l, hl, rfl⟩ := h
    exact ⟨rfl, rfl, fun a ro e => by cases e⟩
  · rename_i k l ro
    cases hk : k.all noTok
    · simp [hk] at h
    · simp only [hk, cond_true, Option.some.injEq] at h
      subst h
      exact ⟨rfl, rfl, fun a ro e => by cases e⟩
  · cases h; exact ⟨rfl, rfl, fun a ro e => e⟩
  · cases h
end
end Go.Ideal
