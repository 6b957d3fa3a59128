/-
  Part of the proof: the machine that runs a program by fixed orders, and that each of its runs is a run of the model; or a run of it in parts. No conditions.
-/
import Derived.Test.YtidglbgpoagjlaaGreatDoorIdBase
namespace Go.Ideal

/-! Kinds of elements of slices: rows of scalars. -/
inductive SK where
  | int (k : IntKind)
  | bool
  | str
  | tok
abbrev EK := List SK
def SK.C : SK → Type
  | .int _ => Int
  | .bool => Bool
  | .str => ByteArray
  | .tok => Value
def SK.enc : (s : SK) → s.C → Value
  | .int k, n => .int k n
  | .bool, b => .bool b
  | .str, s => .string s
  | .tok, v => v
def SK.dec : (s : SK) → Value → Option s.C
  | .int k, .int k' n => bif decide (k = k') then some n else none
  | .bool, .bool b => some b
  | .str, .string s => some s
  | .tok, v => some v
  | _, _ => none
theorem SK.enc_dec : ∀ (s : SK) (v : Value) (x : s.C), s.dec v = some x → s.enc x = v := by
  intro s v x h
  cases s with
  | int k =>
    cases v <;> simp only [SK.dec, reduceCtorEq] at h
    rename_i k' n
    by_cases e : k = k'
    · subst e; simp only [decide_true, cond_true] at h; cases h; rfl
    · simp [e] at h
  | bool => cases v <;> simp only [SK.dec, reduceCtorEq] at h; cases h; rfl
  | str => cases v <;> simp only [SK.dec, reduceCtorEq] at h; cases h; rfl
  | tok => simp only [SK.dec] at h; cases h; rfl
def EK.C : EK → Type
  | [] => Unit
  | [s] => s.C
  | s :: t :: r => s.C × EK.C (t :: r)
def EK.enc : (k : EK) → EK.C k → List Value
  | [], _ => []
  | [s], x => [s.enc x]
  | s :: t :: r, x => s.enc x.1 :: EK.enc (t :: r) x.2
def EK.dec : (k : EK) → List Value → Option (EK.C k)
  | [] => fun l => match l with
    | [] => some ()
    | _ :: _ => none
  | [s] => fun l => match l with
    | v :: r => match r with
      | [] => s.dec v
      | _ :: _ => none
    | [] => none
  | s :: t :: r => fun l => match l with
    | v :: l => match s.dec v, EK.dec (t :: r) l with
      | some x, some y => some (x, y)
      | _, _ => none
    | [] => none
theorem EK.enc_length : ∀ (k : EK) (x : EK.C k), (EK.enc k x).length = k.length
  | [], _ => rfl
  | [_], _ => rfl
  | _ :: t :: r, x => by simp only [EK.enc, List.length_cons, EK.enc_length (t :: r) x.2]
theorem EK.enc_dec : ∀ (k : EK) (l : List Value) (x : EK.C k), EK.dec k l = some x → EK.enc k x = l
  | [] => fun l x h => by
    cases l with
    | nil => rfl
    | cons v l => cases h
  | [s] => fun l x h => by
    cases l with
    | nil => cases h
    | cons v l => cases l with
      | nil => simp only [EK.dec] at h; simp only [EK.enc]; rw [SK.enc_dec s v x h]
      | cons w l => cases h
  | s :: t :: r => fun l x h => by
    cases l with
    | nil => cases h
    | cons v l =>
      simp only [EK.dec] at h
      split at h
      · rename_i a b ha hb
        cases h
        simp only [EK.enc]
        rw [SK.enc_dec s v a ha, EK.enc_dec (t :: r) l b hb]
      · cases h
def encL (k : EK) (l : List (EK.C k)) : List Value := l.flatMap (EK.enc k)
theorem encL_nil (k : EK) : encL k [] = [] := rfl
theorem encL_cons (k : EK) (x : EK.C k) (l : List (EK.C k)) : encL k (x :: l) = EK.enc k x ++ encL k l := rfl
theorem encL_append (k : EK) (l m : List (EK.C k)) : encL k (l ++ m) = encL k l ++ encL k m := by simp [encL]
theorem encL_length (k : EK) (l : List (EK.C k)) : (encL k l).length = l.length * k.length := by
  induction l with
  | nil => simp [encL]
  | cons x l ih => rw [encL_cons, List.length_append, EK.enc_length, ih, List.length_cons, Nat.succ_mul]; omega
theorem encL_drop (k : EK) : ∀ (i : Nat) (l : List (EK.C k)), (encL k l).drop (i * k.length) = encL k (l.drop i)
  | 0, l => by simp
  | i + 1, [] => by simp [encL]
  | i + 1, x :: l => by
    rw [encL_cons, List.drop_succ_cons, ← encL_drop k i l, List.drop_append, EK.enc_length]
    have h1 : List.drop ((i + 1) * k.length) (EK.enc k x) = [] := List.drop_eq_nil_of_le (by rw [EK.enc_length, Nat.succ_mul]; omega)
    have h2 : (i + 1) * k.length - k.length = i * k.length := by rw [Nat.succ_mul]; omega
    rw [h1, h2, List.nil_append]
theorem encL_take (k : EK) : ∀ (i : Nat) (l : List (EK.C k)), (encL k l).take (i * k.length) = encL k (l.take i)
  | 0, l => by simp [encL]
  | i + 1, [] => by simp [encL]
  | i + 1, x :: l => by
    rw [encL_cons, List.take_succ_cons, encL_cons, ← encL_take k i l, List.take_append, EK.enc_length]
    have h1 : List.take ((i + 1) * k.length) (EK.enc k x) = EK.enc k x := List.take_of_length_le (by rw [EK.enc_length, Nat.succ_mul]; omega)
    have h2 : (i + 1) * k.length - k.length = i * k.length := by rw [Nat.succ_mul]; omega
    rw [h1, h2]

/-! The states of objects that are told as a whole. -/
structure SetS where
  size : Int
  bits : Int
inductive Abs where
  | set (s : SetS)

end Go.Ideal
