/-
  Part of the proof: the machine that runs a program by fixed orders, and that each of its runs is a run of the model; or a run of it in parts. No conditions.
-/
import GoSem.Step
import Derived.Calls
import Derived.Laws.Sem
import Derived.Laws.World
import Derived.KernelRfl
namespace Go.Ideal

/-! Binary tries, by paths. -/
inductive Tr (α : Type) where
  | leaf : Tr α
  | node (l : Tr α) (v : Option α) (r : Tr α) : Tr α

inductive Pth where
  | e : Pth
  | z (p : Pth) : Pth
  | o (p : Pth) : Pth
  deriving DecidableEq

noncomputable def Pth.ofF (f : Nat) : Nat → Pth :=
  Nat.rec (motive := fun _ => Nat → Pth) (fun _ => .e)
    (fun _ ih n => Nat.casesOn (motive := fun _ => Pth) n .e fun n =>
      bif Nat.beq (Nat.mod n 2) 1 then .o (ih (Nat.div n 2)) else .z (ih (Nat.div n 2))) f

noncomputable def Pth.of (n : Nat) : Pth := Pth.ofF n n

theorem Pth.ofF_zero (f : Nat) : Pth.ofF f 0 = .e := by cases f <;> rfl
theorem Pth.ofF_succ (f n : Nat) : Pth.ofF (f + 1) (n + 1) = bif Nat.beq (n % 2) 1 then .o (Pth.ofF f (n / 2)) else .z (Pth.ofF f (n / 2)) := rfl

theorem Pth.ofF_inj : ∀ (f g n m : Nat), n ≤ f → m ≤ g → Pth.ofF f n = Pth.ofF g m → n = m := by
  intro f
  induction f with
  | zero =>
    intro g n m hn hm h
    obtain rfl : n = 0 := by omega
    cases m with
    | zero => rfl
    | succ m =>
      cases g with
      | zero => omega
      | succ g =>
        rw [Pth.ofF_zero, Pth.ofF_succ] at h
        cases hb : Nat.beq (m % 2) 1 <;> rw [hb] at h <;> cases h
  | succ f ih =>
    intro g n m hn hm h
    cases n with
    | zero =>
      cases m with
      | zero => rfl
      | succ m =>
        cases g with
        | zero => omega
        | succ g =>
          rw [Pth.ofF_zero, Pth.ofF_succ] at h
          cases hb : Nat.beq (m % 2) 1 <;> rw [hb] at h <;> cases h
    | succ n =>
      cases m with
      | zero =>
        rw [Pth.ofF_zero, Pth.ofF_succ] at h
        cases hb : Nat.beq (n % 2) 1 <;> rw [hb] at h <;> cases h
      | succ m =>
        cases g with
        | zero => omega
        | succ g =>
          rw [Pth.ofF_succ, Pth.ofF_succ] at h
          cases hb : Nat.beq (n % 2) 1 <;> cases hc : Nat.beq (m % 2) 1 <;> rw [hb, hc] at h
          · have h1 : n % 2 ≠ 1 := by intro e; rw [e] at hb; cases hb
            have h2 : m % 2 ≠ 1 := by intro e; rw [e] at hc; cases hc
            have := ih g (n / 2) (m / 2) (by omega) (by omega) (by injection h)
            omega
          · cases h
          · cases h
          · have h1 : n % 2 = 1 := Nat.eq_of_beq_eq_true hb
            have h2 : m % 2 = 1 := Nat.eq_of_beq_eq_true hc
            have := ih g (n / 2) (m / 2) (by omega) (by omega) (by injection h)
            omega

theorem Pth.of_inj {n m : Nat} (h : Pth.of n = Pth.of m) : n = m := Pth.ofF_inj n m n m (Nat.le_refl _) (Nat.le_refl _) h

namespace Tr
variable {α : Type}

noncomputable def getP (t : Tr α) : Pth → Option α :=
  Tr.rec (motive := fun _ => Pth → Option α) (fun _ => none)
    (fun _ v _ ihl ihr p => Pth.casesOn (motive := fun _ => Option α) p v (fun p => ihl p) (fun p => ihr p)) t

noncomputable def setP (x : Option α) (p : Pth) : Tr α → Tr α :=
  Pth.rec (motive := fun _ => Tr α → Tr α)
    (fun t => Tr.casesOn (motive := fun _ => Tr α) t (.node .leaf x .leaf) (fun l _ r => .node l x r))
    (fun _ ih t => Tr.casesOn (motive := fun _ => Tr α) t (.node (ih .leaf) none .leaf) (fun l v r => .node (ih l) v r))
    (fun _ ih t => Tr.casesOn (motive := fun _ => Tr α) t (.node .leaf none (ih .leaf)) (fun l v r => .node l v (ih r)))
    p

theorem getP_leaf (p : Pth) : (Tr.leaf : Tr α).getP p = none := rfl
theorem getP_setP (x : Option α) : ∀ (p q : Pth) (t : Tr α), (t.setP x p).getP q = if q = p then x else t.getP q := by
  intro p
  induction p with
  | e => intro q t; cases t <;> cases q <;> simp [setP, getP]
  | z p ih =>
    intro q t
    cases t with
    | leaf => cases q with
      | e => simp [setP, getP]
      | z q => have := ih q .leaf; simpa [setP, getP] using this
      | o q => simp [setP, getP]
    | node l v r => cases q with
      | e => simp [setP, getP]
      | z q => have := ih q l; simpa [setP, getP] using this
      | o q => simp [setP, getP]
  | o p ih =>
    intro q t
    cases t with
    | leaf => cases q with
      | e => simp [setP, getP]
      | o q => have := ih q .leaf; simpa [setP, getP] using this
      | z q => simp [setP, getP]
    | node l v r => cases q with
      | e => simp [setP, getP]
      | o q => have := ih q r; simpa [setP, getP] using this
      | z q => simp [setP, getP]

noncomputable def get (t : Tr α) (n : Nat) : Option α := t.getP (Pth.of n)
noncomputable def put (t : Tr α) (n : Nat) (x : Option α) : Tr α := t.setP x (Pth.of n)

theorem get_leaf (n : Nat) : (Tr.leaf : Tr α).get n = none := rfl
theorem get_put (t : Tr α) (n m : Nat) (x : Option α) : (t.put n x).get m = if m = n then x else t.get m := by
  unfold get put
  rw [getP_setP]
  by_cases h : m = n
  · subst h; simp
  · rw [if_neg (fun e => h (Pth.of_inj e)), if_neg h]
theorem get_put_same (t : Tr α) (n : Nat) (x : Option α) : (t.put n x).get n = x := by rw [get_put, if_pos rfl]
theorem get_put_ne (t : Tr α) {n m : Nat} (x : Option α) (h : m ≠ n) : (t.put n x).get m = t.get m := by rw [get_put, if_neg h]
end Tr

end Go.Ideal

namespace Go.Ideal

/-! Kinds of elements of slices: rows of scalars. -/
inductive SK where
  | int (k : IntKind)
  | bool
  | str
  | tok
abbrev EK := List SK
def SK.C : SK → Type
  | .int _ => Int
  | .bool => Bool
  | .str => ByteArray
  | .tok => Value
def SK.enc : (s : SK) → s.C → Value
  | .int k, n => .int k n
  | .bool, b => .bool b
  | .str, s => .string s
  | .tok, v => v
def SK.dec : (s : SK) → Value → Option s.C
  | .int k, .int k' n => bif decide (k = k') then some n else none
  | .bool, .bool b => some b
  | .str, .string s => some s
  | .tok, v => some v
  | _, _ => none
theorem SK.enc_dec : ∀ (s : SK) (v : Value) (x : s.C), s.dec v = some x → s.enc x = v := by
  intro s v x h
  cases s with
  | int k =>
    cases v <;> simp only [SK.dec, reduceCtorEq] at h
    rename_i k' n
    by_cases e : k = k'
    · subst e; simp only [decide_true, cond_true] at h; cases h; rfl
    · simp [e] at h
  | bool => cases v <;> simp only [SK.dec, reduceCtorEq] at h; cases h; rfl
  | str => cases v <;> simp only [SK.dec, reduceCtorEq] at h; cases h; rfl
  | tok => simp only [SK.dec] at h; cases h; rfl
def EK.C : EK → Type
  | [] => Unit
  | [s] => s.C
  | s :: t :: r => s.C × EK.C (t :: r)
def EK.enc : (k : EK) → EK.C k → List Value
  | [], _ => []
  | [s], x => [s.enc x]
  | s :: t :: r, x => s.enc x.1 :: EK.enc (t :: r) x.2
def EK.dec : (k : EK) → List Value → Option (EK.C k)
  | [] => fun l => match l with
    | [] => some ()
    | _ :: _ => none
  | [s] => fun l => match l with
    | v :: r => match r with
      | [] => s.dec v
      | _ :: _ => none
    | [] => none
  | s :: t :: r => fun l => match l with
    | v :: l => match s.dec v, EK.dec (t :: r) l with
      | some x, some y => some (x, y)
      | _, _ => none
    | [] => none
theorem EK.enc_length : ∀ (k : EK) (x : EK.C k), (EK.enc k x).length = k.length
  | [], _ => rfl
  | [_], _ => rfl
  | _ :: t :: r, x => by simp only [EK.enc, List.length_cons, EK.enc_length (t :: r) x.2]
theorem EK.enc_dec : ∀ (k : EK) (l : List Value) (x : EK.C k), EK.dec k l = some x → EK.enc k x = l
  | [] => fun l x h => by
    cases l with
    | nil => rfl
    | cons v l => cases h
  | [s] => fun l x h => by
    cases l with
    | nil => cases h
    | cons v l => cases l with
      | nil => simp only [EK.dec] at h; simp only [EK.enc]; rw [SK.enc_dec s v x h]
      | cons w l => cases h
  | s :: t :: r => fun l x h => by
    cases l with
    | nil => cases h
    | cons v l =>
      simp only [EK.dec] at h
      split at h
      · rename_i a b ha hb
        cases h
        simp only [EK.enc]
        rw [SK.enc_dec s v a ha, EK.enc_dec (t :: r) l b hb]
      · cases h
def encL (k : EK) (l : List (EK.C k)) : List Value := l.flatMap (EK.enc k)
theorem encL_nil (k : EK) : encL k [] = [] := rfl
theorem encL_cons (k : EK) (x : EK.C k) (l : List (EK.C k)) : encL k (x :: l) = EK.enc k x ++ encL k l := rfl
theorem encL_append (k : EK) (l m : List (EK.C k)) : encL k (l ++ m) = encL k l ++ encL k m := by simp [encL]
theorem encL_length (k : EK) (l : List (EK.C k)) : (encL k l).length = l.length * k.length := by
  induction l with
  | nil => simp [encL]
  | cons x l ih => rw [encL_cons, List.length_append, EK.enc_length, ih, List.length_cons, Nat.succ_mul]; omega
theorem encL_drop (k : EK) : ∀ (i : Nat) (l : List (EK.C k)), (encL k l).drop (i * k.length) = encL k (l.drop i)
  | 0, l => by simp
  | i + 1, [] => by simp [encL]
  | i + 1, x :: l => by
    rw [encL_cons, List.drop_succ_cons, ← encL_drop k i l, List.drop_append, EK.enc_length]
    have h1 : List.drop ((i + 1) * k.length) (EK.enc k x) = [] := List.drop_eq_nil_of_le (by rw [EK.enc_length, Nat.succ_mul]; omega)
    have h2 : (i + 1) * k.length - k.length = i * k.length := by rw [Nat.succ_mul]; omega
    rw [h1, h2, List.nil_append]
theorem encL_take (k : EK) : ∀ (i : Nat) (l : List (EK.C k)), (encL k l).take (i * k.length) = encL k (l.take i)
  | 0, l => by simp [encL]
  | i + 1, [] => by simp [encL]
  | i + 1, x :: l => by
    rw [encL_cons, List.take_succ_cons, encL_cons, ← encL_take k i l, List.take_append, EK.enc_length]
    have h1 : List.take ((i + 1) * k.length) (EK.enc k x) = EK.enc k x := List.take_of_length_le (by rw [EK.enc_length, Nat.succ_mul]; omega)
    have h2 : (i + 1) * k.length - k.length = i * k.length := by rw [Nat.succ_mul]; omega
    rw [h1, h2]

/-! The states of objects that are told as a whole. -/
structure SetS where
  size : Int
  bits : Int
inductive Abs where
  | set (s : SetS)

end Go.Ideal
