/-
  Part of the proof: the machine that runs a program by fixed orders, and that each of its runs is a run of the model; or a run of it in parts. No conditions.
-/
import GoSem.Step
import Derived.Calls
import Derived.Laws.Sem
import Derived.Laws.World
import Derived.KernelRfl
namespace Go.Ideal

/-! Binary tries, by paths. -/
inductive Tr (α : Type) where
  | leaf : Tr α
  | node (l : Tr α) (v : Option α) (r : Tr α) : Tr α

inductive Pth where
  | e : Pth
  | z (p : Pth) : Pth
  | o (p : Pth) : Pth
  deriving DecidableEq

noncomputable def Pth.ofF (f : Nat) : Nat → Pth :=
  Nat.rec (motive := fun _ => Nat → Pth) (fun _ => .e)
    (fun _ ih n => Nat.casesOn (motive := fun _ => Pth) n .e fun n =>
      bif Nat.beq (Nat.mod n 2) 1 then .o (ih (Nat.div n 2)) else .z (ih (Nat.div n 2))) f

noncomputable def Pth.of (n : Nat) : Pth := Pth.ofF n n

theorem Pth.ofF_zero (f : Nat) : Pth.ofF f 0 = .e := by cases f <;> rfl
theorem Pth.ofF_succ (f n : Nat) : Pth.ofF (f + 1) (n + 1) = bif Nat.beq (n % 2) 1 then .o (Pth.ofF f (n / 2)) else .z (Pth.ofF f (n / 2)) := rfl

theorem Pth.ofF_inj : ∀ (f g n m : Nat), n ≤ f → m ≤ g → Pth.ofF f n = Pth.ofF g m → n = m := by
  intro f
  induction f with
  | zero =>
    intro g n m hn hm h
    obtain rfl : n = 0 := by omega
    cases m with
    | zero => rfl
    | succ m =>
      cases g with
      | zero => omega
      | succ g =>
        rw [Pth.ofF_zero, Pth.ofF_succ] at h
        cases hb : Nat.beq (m % 2) 1 <;> rw [hb] at h <;> cases h
  | succ f ih =>
    intro g n m hn hm h
    cases n with
    | zero =>
      cases m with
      | zero => rfl
      | succ m =>
        cases g with
        | zero => omega
        | succ g =>
          rw [Pth.ofF_zero, Pth.ofF_succ] at h
          cases hb : Nat.beq (m % 2) 1 <;> rw [hb] at h <;> cases h
    | succ n =>
      cases m with
      | zero =>
        rw [Pth.ofF_zero, Pth.ofF_succ] at h
        cases hb : Nat.beq (n % 2) 1 <;> rw [hb] at h <;> cases h
      | succ m =>
        cases g with
        | zero => omega
        | succ g =>
          rw [Pth.ofF_succ, Pth.ofF_succ] at h
          cases hb : Nat.beq (n % 2) 1 <;> cases hc : Nat.beq (m % 2) 1 <;> rw [hb, hc] at h
          · have h1 : n % 2 ≠ 1 := by intro e; rw [e] at hb; cases hb
            have h2 : m % 2 ≠ 1 := by intro e; rw [e] at hc; cases hc
            have := ih g (n / 2) (m / 2) (by omega) (by omega) (by injection h)
            omega
          · cases h
          · cases h
          · have h1 : n % 2 = 1 := Nat.eq_of_beq_eq_true hb
            have h2 : m % 2 = 1 := Nat.eq_of_beq_eq_true hc
            have := ih g (n / 2) (m / 2) (by omega) (by omega) (by injection h)
            omega

theorem Pth.of_inj {n m : Nat} (h : Pth.of n = Pth.of m) : n = m := Pth.ofF_inj n m n m (Nat.le_refl _) (Nat.le_refl _) h

namespace Tr
variable {α : Type}

noncomputable def getP (t : Tr α) : Pth → Option α :=
  Tr.rec (motive := fun _ => Pth → Option α) (fun _ => none)
    (fun _ v _ ihl ihr p => Pth.casesOn (motive := fun _ => Option α) p v (fun p => ihl p) (fun p => ihr p)) t

noncomputable def setP (x : Option α) (p : Pth) : Tr α → Tr α :=
  Pth.rec (motive := fun _ => Tr α → Tr α)
    (fun t => Tr.casesOn (motive := fun _ => Tr α) t (.node .leaf x .leaf) (fun l _ r => .node l x r))
    (fun _ ih t => Tr.casesOn (motive := fun _ => Tr α) t (.node (ih .leaf) none .leaf) (fun l v r => .node (ih l) v r))
    (fun _ ih t => Tr.casesOn (motive := fun _ => Tr α) t (.node .leaf none (ih .leaf)) (fun l v r => .node l v (ih r)))
    p

theorem getP_leaf (p : Pth) : (Tr.leaf : Tr α).getP p = none := rfl
theorem getP_setP (x : Option α) : ∀ (p q : Pth) (t : Tr α), (t.setP x p).getP q = if q = p then x else t.getP q := by
  intro p
  induction p with
  | e => intro q t; cases t <;> cases q <;> simp [setP, getP]
  | z p ih =>
    intro q t
    cases t with
    | leaf => cases q with
      | e => simp [setP, getP]
      | z q => have := ih q .leaf; simpa [setP, getP] using this
      | o q => simp [setP, getP]
    | node l v r => cases q with
      | e => simp [setP, getP]
      | z q => have := ih q l; simpa [setP, getP] using this
      | o q => simp [setP, getP]
  | o p ih =>
    intro q t
    cases t with
    | leaf => cases q with
      | e => simp [setP, getP]
      | o q => have := ih q .leaf; simpa [setP, getP] using this
      | z q => simp [setP, getP]
    | node l v r => cases q with
      | e => simp [setP, getP]
      | o q => have := ih q r; simpa [setP, getP] using this
      | z q => simp [setP, getP]

noncomputable def get (t : Tr α) (n : Nat) : Option α := t.getP (Pth.of n)
noncomputable def put (t : Tr α) (n : Nat) (x : Option α) : Tr α := t.setP x (Pth.of n)

theorem get_leaf (n : Nat) : (Tr.leaf : Tr α).get n = none := rfl
theorem get_put (t : Tr α) (n m : Nat) (x : Option α) : (t.put n x).get m = if m = n then x else t.get m := by
  unfold get put
  rw [getP_setP]
  by_cases h : m = n
  · subst h; simp
  · rw [if_neg (fun e => h (Pth.of_inj e)), if_neg h]
theorem get_put_same (t : Tr α) (n : Nat) (x : Option α) : (t.put n x).get n = x := by rw [get_put, if_pos rfl]
theorem get_put_ne (t : Tr α) {n m : Nat} (x : Option α) (h : m ≠ n) : (t.put n x).get m = t.get m := by rw [get_put, if_neg h]
end Tr

end Go.Ideal
