/-
  Part of the proof: the machine that runs a program by fixed orders, and that each of its runs is a run of the model; or a run of it in parts. No conditions.
-/
import Derived.Test.YtidglbgpoagjlaaGreatDoorIdHeap
import Derived.Laws.Tables
namespace Go.Ideal

/-! What needs no memory. -/
noncomputable def pureRun {α : Type} (P : Program) (s : Sem α) : Option α :=
  Sem.rec (motive := fun _ => Option α) (fun a => some a) (fun _ _ _ _ => none) (fun _ _ _ _ _ => none) (fun _ _ _ => none) (fun _ _ _ => none) (fun _ _ _ _ => none) (fun _ _ _ => none)
    (fun _ _ _ => none) (fun _ _ _ _ => none) (fun _ _ _ => none) (fun _ _ _ => none) (fun _ ih => ih P) (fun _ _ ih => ih) (fun _ => none) s

theorem pureRun_run {α : Type} {P : Program} {s : Sem α} {a : α} (h : pureRun P s = some a) (w : World) : s.run P w = .ok a w := by
  induction s with
  | pure b => simp [pureRun] at h; subst h; rfl
  | program k ih => exact ih P h
  | mark m k ih => exact ih h
  | _ => simp [pureRun] at h

def flatN : Nat → Value → Bool
  | 0, _ => false
  | n + 1, v => match v with
    | .bool _ | .int _ _ | .float _ _ | .string _ | .pointer none | .slice none _ _ | .map none | .nilFunc | .nilIface => true
    | .iface _ v => flatN n v
    | .agg cs | .tuple cs => cs.toList.all (flatN n)
    | _ => false

theorem flatN_eq {μ : Inj} : ∀ (n : Nat) (v v' : Value), flatN n v = true → VRel μ v v' → v' = v := by
  intro n
  induction n with
  | zero => intro v v' h; cases h
  | succ n ih =>
    have hl : ∀ (l l' : List Value), l.all (flatN n) = true → LRel μ l l' → l' = l := by
      intro l
      induction l with
      | nil => intro l' _ h; cases h; rfl
      | cons a l ihl =>
        intro l' h hr
        cases hr with
        | cons hv ht =>
          simp only [List.all_cons, Bool.and_eq_true] at h
          rw [ih _ _ h.1 hv, ihl _ h.2 ht]
    intro v v' h hr
    cases hr with
    | junk => simp [flatN, junk] at h
    | iface t a a' hv => simp only [flatN] at h; rw [ih _ _ h hv]
    | agg xs xs' hx ex =>
      obtain ⟨ys, he, hl'⟩ := VRel.agg_iff.1 (.agg xs xs' hx ex)
      cases he
      simp only [flatN] at h
      have := hl _ _ h hl'
      rw [Array.toList_inj.1 this]
    | tuple xs xs' hx ex =>
      obtain ⟨ys, he, hl'⟩ := VRel.tuple_iff.1 (.tuple xs xs' hx ex)
      cases he
      simp only [flatN] at h
      have := hl _ _ h hl'
      rw [Array.toList_inj.1 this]
    | bool | int | float | string | nilptr | nilslice | nilmap | nilFunc | nilIface => rfl
    | ptr | slice | vptr | vslice | map | func => simp [flatN] at h

theorem flatN_refl (μ : Inj) : ∀ (n : Nat) (v : Value), flatN n v = true → VRel μ v v := by
  intro n
  induction n with
  | zero => intro v h; cases h
  | succ n ih =>
    have hl : ∀ (l : List Value), l.all (flatN n) = true → LRel μ l l := by
      intro l
      induction l with
      | nil => intro _; exact .nil
      | cons a l ihl =>
        intro h
        simp only [List.all_cons, Bool.and_eq_true] at h
        exact .cons (ih _ h.1) (ihl h.2)
    intro v h
    unfold flatN at h
    split at h
    · exact .bool _
    · exact .int _ _
    · exact .float _ _
    · exact .string _
    · exact .nilptr
    · exact .nilslice _ _
    · exact .nilmap
    · exact .nilFunc
    · exact .nilIface
    · exact .iface _ _ _ (ih _ h)
    · exact VRel.agg_iff.2 ⟨_, rfl, hl _ h⟩
    · exact VRel.tuple_iff.2 ⟨_, rfl, hl _ h⟩
    · cases h

def flat (v : Value) : Bool := flatN 8 v
theorem flat_eq {μ : Inj} {v v' : Value} (h : flat v = true) (hr : VRel μ v v') : v' = v := flatN_eq 8 v v' h hr
theorem flat_refl {μ : Inj} {v : Value} (h : flat v = true) : VRel μ v v := flatN_refl μ 8 v h

/-! Bounds. -/
def bnd (x : Value) (y : Nat) : Option Nat :=
  match x with
  | .int _ (.ofNat k) => bif Nat.ble k y then some k else none
  | _ => none
def ibounds (len cap : Nat) (low high max : Option Value) : Option (Nat × Nat × Nat) :=
  (match max with | some v => bnd v cap | none => some cap).bind fun m =>
  (match high, max with | some v, _ => bnd v m | none, none => some len | none, some _ => none).bind fun h =>
  (match low with | some v => bnd v h | none => some 0).bind fun l => some (l, h, m)

/-! Structures built. -/
def ifill (place : Nat → Option (Nat × Nat)) (cells : List Value) : List (Nat × Value) → Option (List Value)
  | [] => some cells
  | (i, v) :: rest =>
    match place i with
    | none => none
    | some (off, size) =>
      let l := v.cells.toList
      bif Nat.beq l.length size && Nat.ble (off + l.length) cells.length then ifill place (splice cells off l) rest else none

def zeroL (P : Program) (t : TypeId) : Option (List Value) :=
  match P.info? t with
  | some i => match i.zero with
    | some z => bif flat z then some z.cells.toList else none
    | none => none
  | none => none
def sizeT (P : Program) (t : TypeId) : Option Nat := (P.info? t).map (·.size)
def structPlaces (P : Program) (fields : Array Field) : Option (List (Nat × Nat)) :=
  fields.toList.mapM (fun f => (P.info? f.type).map fun i => (f.offset, i.size))

def ibuild (P : Program) (t : TypeId) (parts : List (Nat × Value)) : Option Value :=
  match zeroL P t, P.underlying t with
  | some z, some (.array _ e) => match sizeT P e with
    | some n => (ifill (fun i => some (i * n, n)) z parts).map fun l => .agg ⟨l⟩
    | none => none
  | some z, some (.struct fields) => match structPlaces P fields with
    | some pl => (ifill (fun i => pl[i]?) z parts).map fun l => .agg ⟨l⟩
    | none => none
  | _, _ => none

def zerosL (z : List Value) (n : Nat) : List Value := (List.range n).map fun i => z.getD (i % z.length) default

noncomputable def ibuildSlice (P : Program) (t : TypeId) (len : Nat) (parts : List (Nat × Value)) (H : IHeap) : Option (Value × IHeap) :=
  match P.underlying t with
  | some (.slice e) => match sizeT P e, zeroL P e with
    | some n, some z =>
      bif Nat.beq (len * n) 0 then
        match parts with
        | [] => some (.slice (some ⟨H.next, 0, none⟩) len len, H.alloc (.cells [] n false))
        | _ => none
      else bif Nat.ble (len * n) 16777216 then
        (ifill (fun i => some (i * n, n)) (zerosL z (len * n)) parts).map fun l => (.slice (some ⟨H.next, 0, none⟩) len len, H.alloc (.cells l n false))
      else none
    | _, _ => none
  | _ => none

/-! Memory. -/
def isAggD : TypeDesc → Bool
  | .struct _ | .array _ _ => true
  | _ => false
noncomputable def iload (P : Program) (t : TypeId) (a : Value) (H : IHeap) : Option Value :=
  match a with
  | .pointer (some ⟨b, off, none⟩) =>
    match H.get b with
    | some (.cells cs _ _) =>
      match P.underlying t, sizeT P t with
      | some d, some n =>
        bif isAggD d then
          let l := (cs.drop off).take n
          bif Nat.beq l.length n then some (.agg ⟨l⟩) else none
        else cs[off]?
      | _, _ => none
    | _ => none
  | _ => none
noncomputable def istore (P : Program) (t : TypeId) (a x : Value) (H : IHeap) : Option IHeap :=
  match a with
  | .pointer (some ⟨b, off, none⟩) =>
    match H.get b with
    | some (.cells cs e false) =>
      match sizeT P t with
      | some n =>
        let l := x.cells.toList
        bif Nat.beq l.length n && l.all okCell && Nat.ble (off + l.length) cs.length then some (H.put b (.cells (splice cs off l) e false)) else none
      | _ => none
    | _ => none
  | _ => none

def addTo (b off n : Nat) : Value := .pointer (some ⟨b, off + n, none⟩)

end Go.Ideal
