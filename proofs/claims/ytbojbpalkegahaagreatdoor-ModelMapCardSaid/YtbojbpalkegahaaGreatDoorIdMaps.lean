/-
  Part of the proof: the machine that runs a program by fixed orders, and that each of its runs is a run of the model; or a run of it in parts. No conditions.
-/
import GoSem.Step
import Derived.Calls
import Derived.Laws.Sem
import Derived.Laws.World
import Derived.KernelRfl
import Derived.Laws.Cells
import Derived.Laws.IdiomCopy
import Derived.Laws.BytesString
import Derived.Lib.FrozenHead
import Derived.Lib.UnsafeStr
import Derived.Laws.Tables
import Derived.Laws.Append
import Derived.Orders
namespace Go.Ideal
abbrev f_drumlinlaw42_ModelMap : Nat := 3
abbrev f_drumlinlaw42_works : Nat := 7
abbrev f_drumlinlaw42_begin : Nat := 8
abbrev f_drumlinlaw42_known_act : Nat := 9
abbrev f_drumlinlaw42_known_agrees : Nat := 10
abbrev f_drumlinlaw42_lists : Nat := 12
abbrev f_model_Model_Do : Nat := 16
abbrev f_drumlinlaw42_Act_op : Nat := 17
abbrev f_drumlinlaw42_cost : Nat := 18
abbrev f_drumlinlaw42_with : Nat := 19
abbrev f_model_Model_Copy : Nat := 22
abbrev f_model_Model_Unsynced : Nat := 23
abbrev f_model_Model_Cost : Nat := 24
abbrev f_drumlinlaw42_all : Nat := 25
abbrev f_drumlinlaw42_strings : Nat := 26
abbrev f_drumlinlaw42_value : Nat := 28
abbrev f_ordmap_New : Nat := 30
abbrev f_ordmap_Map_Copy : Nat := 34
abbrev f_op_Check : Nat := 38
abbrev f_ordmap_Map_Len : Nat := 50
abbrev f_ordmap_Map_All_c1 : Nat := 51
abbrev f_ordmap_Map_since : Nat := 52
abbrev f_model_Model_answer : Nat := 54
abbrev f_model_Model_accept : Nat := 55
abbrev f_model_Model_All_c1 : Nat := 57
abbrev f_ordmap_Map_Delete : Nat := 59
abbrev f_ordmap_Map_Set : Nat := 60
abbrev f_ordmap_Map_Get : Nat := 63
abbrev f_model_Model_after : Nat := 64
abbrev f_slices_Delete : Nat := 67
abbrev f_slices_Insert : Nat := 69
abbrev f_ordmap_first : Nat := 71
abbrev f_ordmap_Map_Rank_c1 : Nat := 72
abbrev f_value_Text : Nat := 84
abbrev f_key_Check : Nat := 87
abbrev f_codec_Hex : Nat := 95
end Go.Ideal

namespace Go.Ideal

inductive Tr (α : Type) where
  | leaf : Tr α
  | node (l : Tr α) (v : Option α) (r : Tr α) : Tr α

inductive Pth where
  | e : Pth
  | z (p : Pth) : Pth
  | o (p : Pth) : Pth
  deriving DecidableEq

noncomputable def Pth.ofF (f : Nat) : Nat → Pth :=
  Nat.rec (motive := fun _ => Nat → Pth) (fun _ => .e)
    (fun _ ih n => Nat.casesOn (motive := fun _ => Pth) n .e fun n =>
      bif Nat.beq (Nat.mod n 2) 1 then .o (ih (Nat.div n 2)) else .z (ih (Nat.div n 2))) f

noncomputable def Pth.of (n : Nat) : Pth := Pth.ofF n n

theorem Pth.ofF_zero (f : Nat) : Pth.ofF f 0 = .e := by cases f <;> rfl
theorem Pth.ofF_succ (f n : Nat) : Pth.ofF (f + 1) (n + 1) = bif Nat.beq (n % 2) 1 then .o (Pth.ofF f (n / 2)) else .z (Pth.ofF f (n / 2)) := rfl

theorem Pth.ofF_inj : ∀ (f g n m : Nat), n ≤ f → m ≤ g → Pth.ofF f n = Pth.ofF g m → n = m := by
  intro f
  induction f with
  | zero =>
    intro g n m hn hm h
    obtain rfl : n = 0 := by omega
    cases m with
    | zero => rfl
    | succ m =>
      cases g with
      | zero => omega
      | succ g =>
        rw [Pth.ofF_zero, Pth.ofF_succ] at h
        cases hb : Nat.beq (m % 2) 1 <;> rw [hb] at h <;> cases h
  | succ f ih =>
    intro g n m hn hm h
    cases n with
    | zero =>
      cases m with
      | zero => rfl
      | succ m =>
        cases g with
        | zero => omega
        | succ g =>
          rw [Pth.ofF_zero, Pth.ofF_succ] at h
          cases hb : Nat.beq (m % 2) 1 <;> rw [hb] at h <;> cases h
    | succ n =>
      cases m with
      | zero =>
        rw [Pth.ofF_zero, Pth.ofF_succ] at h
        cases hb : Nat.beq (n % 2) 1 <;> rw [hb] at h <;> cases h
      | succ m =>
        cases g with
        | zero => omega
        | succ g =>
          rw [Pth.ofF_succ, Pth.ofF_succ] at h
          cases hb : Nat.beq (n % 2) 1 <;> cases hc : Nat.beq (m % 2) 1 <;> rw [hb, hc] at h
          · have h1 : n % 2 ≠ 1 := by intro e; rw [e] at hb; cases hb
            have h2 : m % 2 ≠ 1 := by intro e; rw [e] at hc; cases hc
            have := ih g (n / 2) (m / 2) (by omega) (by omega) (by injection h)
            omega
          · cases h
          · cases h
          · have h1 : n % 2 = 1 := Nat.eq_of_beq_eq_true hb
            have h2 : m % 2 = 1 := Nat.eq_of_beq_eq_true hc
            have := ih g (n / 2) (m / 2) (by omega) (by omega) (by injection h)
            omega

theorem Pth.of_inj {n m : Nat} (h : Pth.of n = Pth.of m) : n = m := Pth.ofF_inj n m n m (Nat.le_refl _) (Nat.le_refl _) h

namespace Tr
variable {α : Type}

noncomputable def getP (t : Tr α) : Pth → Option α :=
  Tr.rec (motive := fun _ => Pth → Option α) (fun _ => none)
    (fun _ v _ ihl ihr p => Pth.casesOn (motive := fun _ => Option α) p v (fun p => ihl p) (fun p => ihr p)) t

noncomputable def setP (x : Option α) (p : Pth) : Tr α → Tr α :=
  Pth.rec (motive := fun _ => Tr α → Tr α)
    (fun t => Tr.casesOn (motive := fun _ => Tr α) t (.node .leaf x .leaf) (fun l _ r => .node l x r))
    (fun _ ih t => Tr.casesOn (motive := fun _ => Tr α) t (.node (ih .leaf) none .leaf) (fun l v r => .node (ih l) v r))
    (fun _ ih t => Tr.casesOn (motive := fun _ => Tr α) t (.node .leaf none (ih .leaf)) (fun l v r => .node l v (ih r)))
    p

theorem getP_setP (x : Option α) : ∀ (p q : Pth) (t : Tr α), (t.setP x p).getP q = if q = p then x else t.getP q := by
  intro p
  induction p with
  | e => intro q t; cases t <;> cases q <;> simp [setP, getP]
  | z p ih =>
    intro q t
    cases t with
    | leaf => cases q with
      | e => simp [setP, getP]
      | z q => have := ih q .leaf; simpa [setP, getP] using this
      | o q => simp [setP, getP]
    | node l v r => cases q with
      | e => simp [setP, getP]
      | z q => have := ih q l; simpa [setP, getP] using this
      | o q => simp [setP, getP]
  | o p ih =>
    intro q t
    cases t with
    | leaf => cases q with
      | e => simp [setP, getP]
      | o q => have := ih q .leaf; simpa [setP, getP] using this
      | z q => simp [setP, getP]
    | node l v r => cases q with
      | e => simp [setP, getP]
      | o q => have := ih q r; simpa [setP, getP] using this
      | z q => simp [setP, getP]

noncomputable def get (t : Tr α) (n : Nat) : Option α := t.getP (Pth.of n)
noncomputable def put (t : Tr α) (n : Nat) (x : Option α) : Tr α := t.setP x (Pth.of n)

theorem get_leaf (n : Nat) : (Tr.leaf : Tr α).get n = none := rfl
theorem get_put (t : Tr α) (n m : Nat) (x : Option α) : (t.put n x).get m = if m = n then x else t.get m := by
  unfold get put
  rw [getP_setP]
  by_cases h : m = n
  · subst h; simp
  · rw [if_neg (fun e => h (Pth.of_inj e)), if_neg h]
theorem get_put_same (t : Tr α) (n : Nat) (x : Option α) : (t.put n x).get n = x := by rw [get_put, if_pos rfl]
theorem get_put_ne (t : Tr α) {n m : Nat} (x : Option α) (h : m ≠ n) : (t.put n x).get m = t.get m := by rw [get_put, if_neg h]
end Tr

end Go.Ideal

namespace Go.Ideal
structure MSt where
  cfg : List Int
  limit : Int
  base : List (ByteArray × ByteArray)
  now : List (ByteArray × ByteArray)
  cost : Int
  ups : List (Bool × ByteArray × ByteArray)
  state : Int
  planned : Bool
inductive Pk where
  | table (l : List (ByteArray × ByteArray))
  | model (m : MSt)
  | maps (n : Nat) (l : List (ByteArray × ByteArray))
end Go.Ideal

namespace Go.Ideal

inductive SK where
  | int (k : IntKind)
  | bool
  | str
  | tok
abbrev EK := List SK
@[reducible] def SK.C : SK → Type
  | .int _ => Int
  | .bool => Bool
  | .str => ByteArray
  | .tok => Value
def SK.enc : (s : SK) → s.C → Value
  | .int k, n => .int k n
  | .bool, b => .bool b
  | .str, s => .string s
  | .tok, v => v
def SK.dec : (s : SK) → Value → Option s.C
  | .int k, .int k' n => bif decide (k = k') then some n else none
  | .bool, .bool b => some b
  | .str, .string s => some s
  | .tok, v => some v
  | _, _ => none
theorem SK.enc_dec : ∀ (s : SK) (v : Value) (x : s.C), s.dec v = some x → s.enc x = v := by
  intro s v x h
  cases s with
  | int k =>
    cases v <;> simp only [SK.dec, reduceCtorEq] at h
    rename_i k' n
    by_cases e : k = k'
    · subst e; simp only [decide_true, cond_true] at h; cases h; rfl
    · simp [e] at h
  | bool => cases v <;> simp only [SK.dec, reduceCtorEq] at h; cases h; rfl
  | str => cases v <;> simp only [SK.dec, reduceCtorEq] at h; cases h; rfl
  | tok => simp only [SK.dec] at h; cases h; rfl
@[reducible] def EK.C : EK → Type
  | [] => Unit
  | [s] => s.C
  | s :: t :: r => s.C × EK.C (t :: r)
def EK.enc : (k : EK) → EK.C k → List Value
  | [], _ => []
  | [s], x => [s.enc x]
  | s :: t :: r, x => s.enc x.1 :: EK.enc (t :: r) x.2
def EK.dec : (k : EK) → List Value → Option (EK.C k)
  | [] => fun l => match l with
    | [] => some ()
    | _ :: _ => none
  | [s] => fun l => match l with
    | v :: r => match r with
      | [] => s.dec v
      | _ :: _ => none
    | [] => none
  | s :: t :: r => fun l => match l with
    | v :: l => match s.dec v, EK.dec (t :: r) l with
      | some x, some y => some (x, y)
      | _, _ => none
    | [] => none
theorem EK.enc_length : ∀ (k : EK) (x : EK.C k), (EK.enc k x).length = k.length
  | [], _ => rfl
  | [_], _ => rfl
  | _ :: t :: r, x => by simp only [EK.enc, List.length_cons, EK.enc_length (t :: r) x.2]
theorem EK.enc_dec : ∀ (k : EK) (l : List Value) (x : EK.C k), EK.dec k l = some x → EK.enc k x = l
  | [] => fun l x h => by
    cases l with
    | nil => rfl
    | cons v l => cases h
  | [s] => fun l x h => by
    cases l with
    | nil => cases h
    | cons v l => cases l with
      | nil => simp only [EK.dec] at h; simp only [EK.enc]; rw [SK.enc_dec s v x h]
      | cons w l => cases h
  | s :: t :: r => fun l x h => by
    cases l with
    | nil => cases h
    | cons v l =>
      simp only [EK.dec] at h
      split at h
      · rename_i a b ha hb
        cases h
        simp only [EK.enc]
        rw [SK.enc_dec s v a ha, EK.enc_dec (t :: r) l b hb]
      · cases h
def encL (k : EK) (l : List (EK.C k)) : List Value := l.flatMap (EK.enc k)
theorem encL_nil (k : EK) : encL k [] = [] := rfl
theorem encL_cons (k : EK) (x : EK.C k) (l : List (EK.C k)) : encL k (x :: l) = EK.enc k x ++ encL k l := rfl
theorem encL_append (k : EK) (l m : List (EK.C k)) : encL k (l ++ m) = encL k l ++ encL k m := by simp [encL]
theorem encL_length (k : EK) (l : List (EK.C k)) : (encL k l).length = l.length * k.length := by
  induction l with
  | nil => simp [encL]
  | cons x l ih => rw [encL_cons, List.length_append, EK.enc_length, ih, List.length_cons, Nat.succ_mul]; omega
theorem encL_drop (k : EK) : ∀ (i : Nat) (l : List (EK.C k)), (encL k l).drop (i * k.length) = encL k (l.drop i)
  | 0, l => by simp
  | i + 1, [] => by simp [encL]
  | i + 1, x :: l => by
    rw [encL_cons, List.drop_succ_cons, ← encL_drop k i l, List.drop_append, EK.enc_length]
    have h1 : List.drop ((i + 1) * k.length) (EK.enc k x) = [] := List.drop_eq_nil_of_le (by rw [EK.enc_length, Nat.succ_mul]; omega)
    have h2 : (i + 1) * k.length - k.length = i * k.length := by rw [Nat.succ_mul]; omega
    rw [h1, h2, List.nil_append]
theorem encL_take (k : EK) : ∀ (i : Nat) (l : List (EK.C k)), (encL k l).take (i * k.length) = encL k (l.take i)
  | 0, l => by simp [encL]
  | i + 1, [] => by simp [encL]
  | i + 1, x :: l => by
    rw [encL_cons, List.take_succ_cons, encL_cons, ← encL_take k i l, List.take_append, EK.enc_length]
    have h1 : List.take ((i + 1) * k.length) (EK.enc k x) = EK.enc k x := List.take_of_length_le (by rw [EK.enc_length, Nat.succ_mul]; omega)
    have h2 : (i + 1) * k.length - k.length = i * k.length := by rw [Nat.succ_mul]; omega
    rw [h1, h2]

inductive Abs where
  | bld (t e : TypeId) (l : List UInt8)
  | pack (s : Pk)

end Go.Ideal

namespace Go.Ideal

structure Tgt where
  c : Nat
  d : Nat
  r : Nat
  e : Nat
abbrev Inj := Nat → Option Tgt
def Inj.le (μ ν : Inj) : Prop := ∀ b x, μ b = some x → ν b = some x
theorem Inj.le_refl (μ : Inj) : μ.le μ := fun _ _ h => h
theorem Inj.le_trans {μ ν ξ : Inj} (h : μ.le ν) (h' : ν.le ξ) : μ.le ξ := fun b x e => h' b x (h b x e)
def Inj.ext (μ : Inj) (b : Nat) (x : Tgt) : Inj := fun i => if i = b then some x else μ i
theorem Inj.le_ext {μ : Inj} {b : Nat} (x : Tgt) (h : μ b = none) : μ.le (μ.ext b x) := by
  intro i y e
  unfold Inj.ext
  by_cases hi : i = b
  · subst hi; rw [h] at e; cases e
  · rw [if_neg hi]; exact e
theorem Inj.ext_same (μ : Inj) (b : Nat) (x : Tgt) : μ.ext b x b = some x := by simp [Inj.ext]
theorem Inj.ext_ne (μ : Inj) {b i : Nat} (x : Tgt) (h : i ≠ b) : μ.ext b x i = μ i := by simp [Inj.ext, h]

def capU : Nat := 18446744073709551616
attribute [irreducible] capU
def CapRel (T : Tgt) (o len cap cap' : Nat) : Prop := (cap < capU ∧ cap' = cap) ∨ (capU ≤ cap ∧ cap - capU ≤ cap' ∧ len ≤ cap' ∧ o + cap' * T.e ≤ T.r ∧ (T.e = 1 ∨ cap' ≤ 9223372036854775807))
def junk : Value := .chan (some 0)

inductive FnRel (μ : Inj) : Fn → Fn → Prop where
  | func (f : FuncId) : FnRel μ (.func f) (.func f)
  | method (n : String) : FnRel μ (.method n) (.method n)
  | methodOf (t : TypeId) (n : String) : FnRel μ (.methodOf t n) (.methodOf t n)
  | via (t : TypeId) (p : Array FieldStep) (f : FuncId) (b : Bool) : FnRel μ (.via t p f b) (.via t p f b)
  | yield (l : Nat) (T : Tgt) (h : μ l = some T) : FnRel μ (.yield l) (.yield T.c)

inductive VRel (μ : Inj) : Value → Value → Prop where
  | junk (v : Value) : VRel μ Ideal.junk v
  | bool (b : Bool) : VRel μ (.bool b) (.bool b)
  | int (k : IntKind) (n : Int) : VRel μ (.int k n) (.int k n)
  | float (k : FloatKind) (n : Nat) : VRel μ (.float k n) (.float k n)
  | string (s : ByteArray) : VRel μ (.string s) (.string s)
  | nilptr : VRel μ (.pointer none) (.pointer none)
  | ptr (b o : Nat) (T : Tgt) (h : μ b = some T) : VRel μ (.pointer (some ⟨b, o, none⟩)) (.pointer (some ⟨T.c, T.d + o, none⟩))
  | nilslice (len cap : Nat) : VRel μ (.slice none len cap) (.slice none len cap)
  | slice (b o len cap cap' o' : Nat) (T : Tgt) (h : μ b = some T) (hc : CapRel T o len cap cap') (ho : o' = T.d + o ∨ (len = 0 ∧ cap' = 0)) :
      VRel μ (.slice (some ⟨b, o, none⟩) len cap) (.slice (some ⟨T.c, o', none⟩) len cap')
  | vptr (b o i : Nat) (T : Tgt) (h : μ b = some T) : VRel μ (.pointer (some ⟨b, o, some i⟩)) (.pointer (some ⟨T.c, T.d + (i * T.e + o), none⟩))
  | vslice (b i len cap cap' o' : Nat) (T : Tgt) (h : μ b = some T) (hc : CapRel T (i * T.e) len cap cap') (ho : o' = T.d + i * T.e ∨ (len = 0 ∧ cap' = 0)) (hr : T.r ≠ 0) :
      VRel μ (.slice (some ⟨b, 0, some i⟩) len cap) (.slice (some ⟨T.c, o', none⟩) len cap')
  | vnil (b i cap : Nat) (T : Tgt) (a : Option (Nat × Nat)) (h : μ b = some T) (hc : cap = 0 ∨ (capU ≤ cap ∧ cap - capU = 0)) : VRel μ (.slice (some ⟨b, 0, some i⟩) 0 cap) (.slice (a.map fun p => ⟨p.1, p.2, none⟩) 0 0)
  | nilmap : VRel μ (.map none) (.map none)
  | map (b : Nat) (T : Tgt) (h : μ b = some T) : VRel μ (.map (some b)) (.map (some T.c))
  | func (fn fn' : Fn) (xs xs' ys ys' : Array Value) (hf : FnRel μ fn fn') (hx : xs.size = xs'.size)
      (ex : ∀ (i : Nat) (h : i < xs.size) (h' : i < xs'.size), VRel μ xs[i] xs'[i]) (hy : ys.size = ys'.size)
      (ey : ∀ (i : Nat) (h : i < ys.size) (h' : i < ys'.size), VRel μ ys[i] ys'[i]) : VRel μ (.func fn xs ys) (.func fn' xs' ys')
  | nilFunc : VRel μ .nilFunc .nilFunc
  | iface (t : TypeId) (v v' : Value) (h : VRel μ v v') : VRel μ (.iface t v) (.iface t v')
  | nilIface : VRel μ .nilIface .nilIface
  | agg (xs xs' : Array Value) (hx : xs.size = xs'.size) (ex : ∀ (i : Nat) (h : i < xs.size) (h' : i < xs'.size), VRel μ xs[i] xs'[i]) : VRel μ (.agg xs) (.agg xs')
  | tuple (xs xs' : Array Value) (hx : xs.size = xs'.size) (ex : ∀ (i : Nat) (h : i < xs.size) (h' : i < xs'.size), VRel μ xs[i] xs'[i]) : VRel μ (.tuple xs) (.tuple xs')

theorem FnRel.mono {μ ν : Inj} (hl : μ.le ν) {f f' : Fn} (h : FnRel μ f f') : FnRel ν f f' := by
  cases h with
  | func f => exact .func f
  | method n => exact .method n
  | methodOf t n => exact .methodOf t n
  | via t p f b => exact .via t p f b
  | yield l T h => exact .yield l T (hl _ _ h)

theorem VRel.mono {μ ν : Inj} (hl : μ.le ν) {v v' : Value} (h : VRel μ v v') : VRel ν v v' := by
  induction h with
  | junk v => exact .junk v
  | bool b => exact .bool b
  | int k n => exact .int k n
  | float k n => exact .float k n
  | string s => exact .string s
  | nilptr => exact .nilptr
  | ptr b o T h => exact .ptr b o T (hl _ _ h)
  | nilslice l c => exact .nilslice l c
  | slice b o l k k' o' T h hc ho => exact .slice b o l k k' o' T (hl _ _ h) hc ho
  | vptr b o i T h => exact .vptr b o i T (hl _ _ h)
  | vslice b i l k k' o' T h hc ho hr => exact .vslice b i l k k' o' T (hl _ _ h) hc ho hr
  | vnil b i k T a h hc => exact .vnil b i k T a (hl _ _ h) hc
  | nilmap => exact .nilmap
  | map b T h => exact .map b T (hl _ _ h)
  | func fn fn' xs xs' ys ys' hf hx _ hy _ ihx ihy => exact .func fn fn' xs xs' ys ys' (hf.mono hl) hx ihx hy ihy
  | nilFunc => exact .nilFunc
  | iface t v v' _ ih => exact .iface t v v' ih
  | nilIface => exact .nilIface
  | agg xs xs' hx _ ih => exact .agg xs xs' hx ih
  | tuple xs xs' hx _ ih => exact .tuple xs xs' hx ih

theorem VRel.undef (μ : Inj) : VRel μ undef undef := .tuple _ _ rfl (fun i h => absurd h (by simp))

inductive LRel (μ : Inj) : List Value → List Value → Prop where
  | nil : LRel μ [] []
  | cons {v v' : Value} {l l' : List Value} (h : VRel μ v v') (t : LRel μ l l') : LRel μ (v :: l) (v' :: l')

namespace LRel
variable {μ ν : Inj}
theorem mono (hl : μ.le ν) {l l' : List Value} (h : LRel μ l l') : LRel ν l l' := by
  induction h with
  | nil => exact .nil
  | cons h _ ih => exact .cons (h.mono hl) ih
theorem length {l l' : List Value} (h : LRel μ l l') : l.length = l'.length := by
  induction h with
  | nil => rfl
  | cons _ _ ih => simp [ih]
theorem of_idx {l l' : List Value} (hs : l.length = l'.length) (h : ∀ (i : Nat) (h : i < l.length) (h' : i < l'.length), VRel μ l[i] l'[i]) : LRel μ l l' := by
  induction l generalizing l' with
  | nil => cases l' with
    | nil => exact .nil
    | cons => cases hs
  | cons a l ih => cases l' with
    | nil => cases hs
    | cons a' l' =>
      refine .cons (h 0 (by simp) (by simp)) (ih (by simpa using hs) fun i h1 h2 => ?_)
      exact h (i + 1) (by simpa using h1) (by simpa using h2)
theorem idx {l l' : List Value} (h : LRel μ l l') : ∀ (i : Nat) (h : i < l.length) (h' : i < l'.length), VRel μ l[i] l'[i] := by
  induction h with
  | nil => intro i h; simp at h
  | cons h _ ih =>
    intro i h1 h2
    cases i with
    | zero => exact h
    | succ i => exact ih i (by simpa using h1) (by simpa using h2)
theorem get? {l l' : List Value} (h : LRel μ l l') {i : Nat} {v : Value} (hv : l[i]? = some v) : ∃ v', l'[i]? = some v' ∧ VRel μ v v' := by
  induction h generalizing i with
  | nil => simp at hv
  | cons h _ ih =>
    cases i with
    | zero => simp at hv; subst hv; exact ⟨_, rfl, h⟩
    | succ i => simp at hv; simpa using ih hv
theorem append {a a' b b' : List Value} (h : LRel μ a a') (h' : LRel μ b b') : LRel μ (a ++ b) (a' ++ b') := by
  induction h with
  | nil => exact h'
  | cons h _ ih => exact .cons h ih
theorem take {l l' : List Value} (h : LRel μ l l') (n : Nat) : LRel μ (l.take n) (l'.take n) := by
  induction h generalizing n with
  | nil => simp; exact .nil
  | cons h _ ih => cases n with
    | zero => exact .nil
    | succ n => exact .cons h (ih n)
theorem drop {l l' : List Value} (h : LRel μ l l') (n : Nat) : LRel μ (l.drop n) (l'.drop n) := by
  induction h generalizing n with
  | nil => simp; exact .nil
  | cons h t ih => cases n with
    | zero => exact .cons h t
    | succ n => exact ih n
theorem set {l l' : List Value} (h : LRel μ l l') (i : Nat) {v v' : Value} (hv : VRel μ v v') : LRel μ (l.set i v) (l'.set i v') := by
  induction h generalizing i with
  | nil => exact .nil
  | cons h t ih => cases i with
    | zero => exact .cons hv t
    | succ i => exact .cons h (ih i)
theorem map {α : Type} (l : List α) (f g : α → Value) (h : ∀ x ∈ l, VRel μ (f x) (g x)) : LRel μ (l.map f) (l.map g) := by
  induction l with
  | nil => exact .nil
  | cons a l ih => exact .cons (h a (by simp)) (ih fun x hx => h x (by simp [hx]))
theorem replicate (n : Nat) {v v' : Value} (h : VRel μ v v') : LRel μ (List.replicate n v) (List.replicate n v') := by
  induction n with
  | zero => exact .nil
  | succ n ih => exact .cons h ih
end LRel

theorem VRel.agg_iff {μ : Inj} {xs : Array Value} {v' : Value} : VRel μ (.agg xs) v' ↔ ∃ xs', v' = .agg xs' ∧ LRel μ xs.toList xs'.toList := by
  constructor
  · intro h
    cases h with
    | agg xs xs' hx ex => exact ⟨xs', rfl, .of_idx (by simpa using hx) fun i h1 h2 => by simpa using ex i (by simpa using h1) (by simpa using h2)⟩
  · rintro ⟨xs', rfl, h⟩
    exact .agg _ _ (by simpa using h.length) fun i h1 h2 => h.idx i (by simpa using h1) (by simpa using h2)
theorem VRel.tuple_iff {μ : Inj} {xs : Array Value} {v' : Value} : VRel μ (.tuple xs) v' ↔ ∃ xs', v' = .tuple xs' ∧ LRel μ xs.toList xs'.toList := by
  constructor
  · intro h
    cases h with
    | tuple xs xs' hx ex => exact ⟨xs', rfl, .of_idx (by simpa using hx) fun i h1 h2 => by simpa using ex i (by simpa using h1) (by simpa using h2)⟩
  · rintro ⟨xs', rfl, h⟩
    exact .tuple _ _ (by simpa using h.length) fun i h1 h2 => h.idx i (by simpa using h1) (by simpa using h2)
theorem VRel.func_iff {μ : Inj} {fn : Fn} {xs ys : Array Value} {v' : Value} : VRel μ (.func fn xs ys) v' ↔
    ∃ fn' xs' ys', v' = .func fn' xs' ys' ∧ FnRel μ fn fn' ∧ LRel μ xs.toList xs'.toList ∧ LRel μ ys.toList ys'.toList := by
  constructor
  · intro h
    cases h with
    | func fn fn' xs xs' ys ys' hf hx ex hy ey =>
      exact ⟨fn', xs', ys', rfl, hf, .of_idx (by simpa using hx) fun i h1 h2 => by simpa using ex i (by simpa using h1) (by simpa using h2),
        .of_idx (by simpa using hy) fun i h1 h2 => by simpa using ey i (by simpa using h1) (by simpa using h2)⟩
  · rintro ⟨fn', xs', ys', rfl, hf, h, h'⟩
    exact .func _ _ _ _ _ _ hf (by simpa using h.length) (fun i h1 h2 => h.idx i (by simpa using h1) (by simpa using h2))
      (by simpa using h'.length) (fun i h1 h2 => h'.idx i (by simpa using h1) (by simpa using h2))

noncomputable def look (t : Tr Value) (i : Nat) : Value := (t.get i).getD junk
def TRel (μ : Inj) (t : Tr Value) (n : Nat) (a : Array Value) : Prop := a.size = n ∧ ∀ i, VRel μ (look t i) (a.getD i Go.undef)
theorem TRel.mono {μ ν : Inj} (hl : μ.le ν) {t : Tr Value} {n : Nat} {a : Array Value} (h : TRel μ t n a) : TRel ν t n a := ⟨h.1, fun i => (h.2 i).mono hl⟩
theorem TRel.put {μ : Inj} {t : Tr Value} {n : Nat} {a : Array Value} (h : TRel μ t n a) {d : Nat} (hd : d < n) {v v' : Value} (hv : VRel μ v v') :
    TRel μ (t.put d (some v)) n (a.setIfInBounds d v') := by
  refine ⟨by simp [h.1], fun i => ?_⟩
  unfold look
  rw [Tr.get_put]
  by_cases e : i = d
  · subst e
    rw [if_pos rfl]
    have : (a.setIfInBounds i v').getD i Go.undef = v' := by
      rw [Array.getD_eq_getD_getElem?, Array.getElem?_setIfInBounds]; simp [h.1, hd]
    rw [this]; exact hv
  · rw [if_neg e]
    have : (a.setIfInBounds d v').getD i Go.undef = a.getD i Go.undef := by
      rw [Array.getD_eq_getD_getElem?, Array.getElem?_setIfInBounds]; simp [Ne.symm e, Array.getD_eq_getD_getElem?]
    rw [this]; exact h.2 i

inductive TgtRel (μ : Inj) : Target → Target → Prop where
  | fn (fn fn' : Fn) (ys ys' : Array Value) (hf : FnRel μ fn fn') (hy : LRel μ ys.toList ys'.toList) : TgtRel μ (.fn fn ys) (.fn fn' ys')
  | nil : TgtRel μ .nil .nil
  | builtin (b : Builtin) (ts : Array TypeId) (t : TypeId) (cs : Array Bool) : TgtRel μ (.builtin b ts t cs) (.builtin b ts t cs)
  | collected (r : Nat) (T : Tgt) (h : μ r = some T) : TgtRel μ (.collected r) (.collected T.c)
structure DefRel (μ : Inj) (d d' : Deferred) : Prop where
  tgt : TgtRel μ d.target d'.target
  args : LRel μ d.args.toList d'.args.toList
theorem TgtRel.mono {μ ν : Inj} (hl : μ.le ν) {t t' : Target} (h : TgtRel μ t t') : TgtRel ν t t' := by
  cases h with
  | fn fn fn' ys ys' hf hy => exact .fn fn fn' ys ys' (hf.mono hl) (hy.mono hl)
  | nil => exact .nil
  | builtin b ts t cs => exact .builtin b ts t cs
  | collected r T h => exact .collected r T (hl _ _ h)
theorem DefRel.mono {μ ν : Inj} (hl : μ.le ν) {d d' : Deferred} (h : DefRel μ d d') : DefRel ν d d' := ⟨h.tgt.mono hl, h.args.mono hl⟩
inductive DefsRel (μ : Inj) : List Deferred → List Deferred → Prop where
  | nil : DefsRel μ [] []
  | cons {d d' : Deferred} {l l' : List Deferred} (h : DefRel μ d d') (t : DefsRel μ l l') : DefsRel μ (d :: l) (d' :: l')
theorem DefsRel.mono {μ ν : Inj} (hl : μ.le ν) {l l' : List Deferred} (h : DefsRel μ l l') : DefsRel ν l l' := by
  induction h with
  | nil => exact .nil
  | cons h _ ih => exact .cons (h.mono hl) ih
theorem DefsRel.append {μ : Inj} {a a' b b' : List Deferred} (h : DefsRel μ a a') (h' : DefsRel μ b b') : DefsRel μ (a ++ b) (a' ++ b') := by
  induction h with
  | nil => exact h'
  | cons h _ ih => exact .cons h ih

structure ILoop where
  state : LoopState
  pending : Option Code
  fn : FuncId
  tmps : Tr Value
  n : Nat
  params : Array Tmp
  assign : Code
  body : Code
  defers : Nat

inductive IObj where
  | cells (cs : List Value) (e : Nat) (ro : Bool)
  | loop (l : ILoop)
  | deferred (calls : Option (List Deferred))
  | strIter (s : ByteArray) (pos : Nat)
  | map (es : List MapEntry) (clock : Nat)
  | vec (k : EK) (l : List (EK.C k)) (ro : Bool)
  | abs (a : Abs) (ro : Bool)

def IObj.ro : IObj → Bool
  | .cells _ _ ro => ro
  | .vec _ _ ro => ro
  | .abs _ ro => ro
  | _ => false
def IObj.isAbs : IObj → Bool
  | .abs _ _ => true
  | _ => false
def IObj.void (T : Tgt) : IObj → Prop
  | .vec k l _ => l = [] ∧ T.r = 0 ∧ k.length ≠ 0
  | _ => False
def IObj.packs : IObj → Bool
  | .cells _ _ _ => true
  | .vec _ _ _ => true
  | .abs _ _ => true
  | _ => false

inductive EntsRel (μ : Inj) : List MapEntry → List MapEntry → Prop where
  | nil : EntsRel μ [] []
  | cons {e e' : MapEntry} {l l' : List MapEntry} (hk : VRel μ e.key e'.key) (hv : VRel μ e.val e'.val) (hb : e.born = e'.born) (t : EntsRel μ l l') : EntsRel μ (e :: l) (e' :: l')
theorem EntsRel.mono {μ ν : Inj} (hl : μ.le ν) {l l' : List MapEntry} (h : EntsRel μ l l') : EntsRel ν l l' := by
  induction h with
  | nil => exact .nil
  | cons hk hv hb _ ih => exact .cons (hk.mono hl) (hv.mono hl) hb ih

inductive ORel (μ : Inj) : Tgt → IObj → Obj → Prop where
  | cells (T : Tgt) (cs : List Value) (e : Nat) (ro : Bool) (c : Array Value) (t : TypeId) (lo hi : Nat) (he : e = T.e) (hc : LRel μ cs ((c.toList.drop T.d).take cs.length))
      (hr : c.size = T.d + T.r) (hf : ro = false → ∀ i, i < c.size ∨ (i = c.size ∧ e ≠ 1) → ¬ (lo ≤ i ∧ i < hi)) : ORel μ T (.cells cs e ro) (.cells c t (lo, hi))
  | loop (T : Tgt) (l : ILoop) (a : Array Value) (R : Tgt) (ht : TRel μ l.tmps l.n a) (hd : μ l.defers = some R) :
      ORel μ T (.loop l) (.loop { state := l.state, pending := l.pending, fn := l.fn, tmps := a, params := l.params, assign := l.assign, body := l.body, defers := R.c })
  | deferredNone (T : Tgt) : ORel μ T (.deferred none) (.deferred none)
  | deferred (T : Tgt) (l l' : List Deferred) (h : DefsRel μ l l') : ORel μ T (.deferred (some l)) (.deferred (some l'))
  | strIter (T : Tgt) (s : ByteArray) (p : Nat) (hd : T.d = 0) : ORel μ T (.strIter s p) (.stringIter s p)
  | map (T : Tgt) (es : List MapEntry) (es' : Array MapEntry) (clock : Nat) (h : EntsRel μ es es'.toList) : ORel μ T (.map es clock) (.map es' clock)
  | vec (T : Tgt) (k : EK) (l : List (EK.C k)) (ro : Bool) (o : Obj) (h : ORel μ T (.cells (encL k l) k.length ro) o) : ORel μ T (.vec k l ro) o
  | vec0 (T : Tgt) (k : EK) (ro : Bool) (o : Obj) (he : k.length = T.e) (hr : T.r = 0) (hk : k.length ≠ 0) : ORel μ T (.vec k [] ro) o
  | abs (T : Tgt) (a : Abs) (ro : Bool) (o : Obj) : ORel μ T (.abs a ro) o

theorem ORel.mono {μ ν : Inj} (hl : μ.le ν) {T : Tgt} {o : IObj} {o' : Obj} (h : ORel μ T o o') : ORel ν T o o' := by
  induction h with
  | cells cs e ro c t lo hi he hc hr hf => exact .cells T cs e ro c t lo hi he (hc.mono hl) hr hf
  | loop l a R ht hd => exact .loop T l a R (ht.mono hl) (hl _ _ hd)
  | deferredNone => exact .deferredNone T
  | deferred l l' h => exact .deferred T l l' (h.mono hl)
  | strIter s p hd => exact .strIter T s p hd
  | map es es' clock h => exact .map T es es' clock (h.mono hl)
  | vec k l ro o _ ih => exact .vec T k l ro o ih
  | vec0 k ro o he hr hk => exact .vec0 T k ro o he hr hk
  | abs a ro o => exact .abs T a ro o

end Go.Ideal

namespace Go.Ideal
def mCells (m : MSt) (b n : Nat) (u : Value) : List Value :=
  [.int .i64 (m.cfg.getD 0 0), .int .i64 (m.cfg.getD 1 0), .int .i64 (m.cfg.getD 2 0), .int .i64 (m.cfg.getD 3 0), .int .i64 (m.cfg.getD 4 0), .int .i64 (m.cfg.getD 5 0), .int .i64 (m.cfg.getD 6 0), .int .i64 m.limit,
    .pointer (some ⟨b, 0, none⟩), .pointer (some ⟨n, 0, none⟩), .int .i64 m.cost, u, .pointer none, .int .i64 m.state, .bool m.planned]
def kRow (n z len : Nat) : List (EK.C [.tok]) := List.replicate n junk ++ [Value.slice (some ⟨z, 0, some 0⟩) len capU]
inductive pkReps : Pk → List IObj → Prop where
  | tableNil : pkReps (.table []) [.cells [.bool true, .slice none 0 0] 0 false]
  | table (l : List (ByteArray × ByteArray)) : pkReps (.table l) [.cells [.bool true, .slice (some ⟨1, 0, some 0⟩) l.length capU] 0 false, .vec [.str, .str] l false]
  | model (m : MSt) : pkReps (.model m) [.cells (mCells m 1 2 (.slice (some ⟨3, 0, some 0⟩) m.ups.length capU)) 0 false, .abs (.pack (.table m.base)) false, .abs (.pack (.table m.now)) false, .vec [.bool, .str, .str] m.ups false]
  | maps (n : Nat) (l : List (ByteArray × ByteArray)) : pkReps (.maps n l) [.vec [.tok] (kRow n 1 l.length) false, .vec [.str, .str] l false]
def pkExt : Pk → List Nat
  | _ => []
end Go.Ideal

namespace Go.Ideal
structure IHeap where
  m : Tr IObj
  next : Nat
noncomputable def IHeap.get (H : IHeap) (b : Nat) : Option IObj := H.m.get b
noncomputable def IHeap.put (H : IHeap) (b : Nat) (o : IObj) : IHeap := ⟨H.m.put b (some o), H.next⟩
noncomputable def IHeap.del (H : IHeap) (b : Nat) : IHeap := ⟨H.m.put b none, H.next⟩
noncomputable def IHeap.alloc (H : IHeap) (o : IObj) : IHeap := ⟨H.m.put H.next (some o), H.next + 1⟩
theorem IHeap.get_put (H : IHeap) (b i : Nat) (o : IObj) : (H.put b o).get i = if i = b then some o else H.get i := Tr.get_put ..
theorem IHeap.get_del (H : IHeap) (b i : Nat) : (H.del b).get i = if i = b then none else H.get i := Tr.get_put ..
theorem IHeap.get_alloc (H : IHeap) (i : Nat) (o : IObj) : (H.alloc o).get i = if i = H.next then some o else H.get i := Tr.get_put ..

theorem ownsRowF_same {W W' : World} {e : TypeId} {v : Value} {n : Nat} {xs : List Value} (h : W.ownsRowF 0 e 1 v n xs) (hs : ∀ i, v.ownBlock = some i → W'.heap[i]? = W.heap[i]?) : W'.ownsRowF 0 e 1 v n xs := by
  obtain ⟨h1, h2⟩ := h
  refine ⟨h1, ?_⟩
  rcases h2 with h2 | ⟨g, cap, cur, fz, rfl, h3, h4, h5⟩
  · exact .inl h2
  · exact .inr ⟨g, cap, cur, fz, rfl, h3, by rw [hs g rfl]; exact h4, h5⟩
theorem ownsRowF_lt {W : World} {e : TypeId} {v : Value} {n : Nat} {xs : List Value} (h : W.ownsRowF 0 e 1 v n xs) {i : Nat} (hi : v.ownBlock = some i) : i < W.heap.size := by
  obtain ⟨h1, h2⟩ := h
  rcases h2 with ⟨rfl, _⟩ | ⟨g, cap, cur, fz, rfl, h3, h4, h5⟩
  · cases hi
  · have hi : g = i := by simpa [Value.ownBlock] using hi
    subst hi
    rcases Nat.lt_or_ge g W.heap.size with h' | h'
    · exact h'
    · rw [Array.getElem?_eq_none h'] at h4; cases h4
def BldRep (t e : TypeId) (l : List UInt8) (T : Tgt) (F : Nat → Prop) (W : World) : Prop := T.d = 0 ∧ ∃ p v : Value, (p = .pointer none ∨ p = .pointer (some ⟨T.c, 0, none⟩)) ∧ W.heap[T.c]? = some (.cells #[p, v] t (0, 0)) ∧ W.ownsRowF 0 e 1 v l.length (Lib.byteCells l) ∧ v.ownBlock ≠ some T.c ∧
      ∀ i, F i ↔ i = T.c ∨ v.ownBlock = some i
def gmap (ν : Inj) (ts : List Tgt) (ext : List Nat) : Inj := fun b => if b < ts.length then ts[b]? else match ext[b - ts.length]? with
  | some m => ν m
  | none => none
theorem gmap_in {ν : Inj} {ts : List Tgt} {ext : List Nat} {b : Nat} (h : b < ts.length) : gmap ν ts ext b = ts[b]? := if_pos h
theorem gmap_nil (ν ν' : Inj) (ts : List Tgt) : gmap ν ts [] = gmap ν' ts [] := by
  funext b
  unfold gmap
  split
  · rfl
  · rfl
theorem gmap_le {ν ν' : Inj} (h : ν.le ν') (ts : List Tgt) (ext : List Nat) : (gmap ν ts ext).le (gmap ν' ts ext) := by
  intro b X hX
  unfold gmap at hX ⊢
  split at hX
  · rename_i hb; rw [if_pos hb]; exact hX
  · rename_i hb
    rw [if_neg hb]
    split at hX
    · rename_i m hm; exact h _ _ hX
    · cases hX
inductive RepP (ν : Inj) (W : World) : Pk → Tgt → (Nat → Prop) → Prop where
  | mk (s : Pk) (objs : List IObj) (ts : List Tgt) (Fs : Nat → Nat → Prop) (T : Tgt) (F : Nat → Prop) (hr : pkReps s objs) (hl : ts.length = objs.length) (hT : ts[0]? = some T)
      (hroot : ∀ o, objs[0]? = some o → ¬ o.void T)
      (hobj : ∀ (i : Nat) (o : IObj) (T' : Tgt), objs[i]? = some o → ts[i]? = some T' → o.ro = false ∧ o.packs = true ∧ ∃ o', W.heap[T'.c]? = some o' ∧ ORel (gmap ν ts (pkExt s)) T' o o')
      (hcell : ∀ (i : Nat) (o : IObj) (T' : Tgt), objs[i]? = some o → ts[i]? = some T' → o.isAbs = false → ∀ x, Fs i x ↔ (x = T'.c ∧ ¬ o.void T'))
      (hbld : ∀ (i : Nat) (t e : TypeId) (l : List UInt8) (ro : Bool) (T' : Tgt), objs[i]? = some (.abs (.bld t e l) ro) → ts[i]? = some T' → BldRep t e l T' (Fs i) W)
      (hext : ∀ (i : Nat) (s' : Pk) (ro : Bool), objs[i]? = some (.abs (.pack s') ro) → pkExt s' = [])
      (hpack : ∀ (i : Nat) (s' : Pk) (ro : Bool) (T' : Tgt), objs[i]? = some (.abs (.pack s') ro) → ts[i]? = some T' → RepP ν W s' T' (Fs i))
      (hdis : ∀ (i j x : Nat), i < objs.length → j < objs.length → Fs i x → Fs j x → i = j)
      (hF : ∀ x, F x ↔ ∃ i, i < objs.length ∧ Fs i x) : RepP ν W s T F
def RepG (ν : Inj) : Abs → Tgt → (Nat → Prop) → World → Prop
  | .bld t e l, T, F, W => BldRep t e l T F W
  | .pack s, T, F, W => RepP ν W s T F
theorem BldRep.loc {t e : TypeId} {l : List UInt8} {T : Tgt} {F : Nat → Prop} {W W' : World} (h : BldRep t e l T F W) (hs : ∀ i, F i → W'.heap[i]? = W.heap[i]?) : BldRep t e l T F W' := by
  obtain ⟨hd, p, v, h1, h2, h3, h4, h5⟩ := h
  exact ⟨hd, p, v, h1, by rw [hs _ ((h5 _).2 (.inl rfl))]; exact h2, ownsRowF_same h3 (fun i hi => hs i ((h5 i).2 (.inr hi))), h4, h5⟩
theorem BldRep.bnd {t e : TypeId} {l : List UInt8} {T : Tgt} {F : Nat → Prop} {W : World} (h : BldRep t e l T F W) : F T.c ∧ ∀ i, F i → i < W.heap.size := by
  obtain ⟨hd, p, v, h1, h2, h3, h4, h5⟩ := h
  refine ⟨(h5 _).2 (.inl rfl), fun i hi => ?_⟩
  rcases (h5 i).1 hi with rfl | hi
  · rcases Nat.lt_or_ge T.c W.heap.size with h' | h'
    · exact h'
    · rw [Array.getElem?_eq_none h'] at h2; cases h2
  · exact ownsRowF_lt h3 hi
theorem isAbs_eq {o : IObj} (h : o.isAbs = true) : ∃ a ro, o = .abs a ro := by
  cases o <;> first | exact ⟨_, _, rfl⟩ | cases h
theorem abs_solid {o : IObj} (h : o.isAbs = true) (T : Tgt) : ¬ o.void T := by
  obtain ⟨a, ro, rfl⟩ := isAbs_eq h
  exact id
theorem ORel.revoid {μ : Inj} (ν : Inj) {T : Tgt} {o : IObj} {o' : Obj} (h : ORel μ T o o') (hv : o.void T) (o2 : Obj) : ORel ν T o o2 := by
  cases o <;> first | (exact hv.elim) | skip
  rename_i k l ro
  obtain ⟨hl0, hr0, hk⟩ := hv
  subst hl0
  have he : k.length = T.e := by
    cases h with
    | vec _ _ _ _ hc => cases hc with
      | cells _ _ _ _ _ _ _ he => exact he
    | vec0 _ _ _ he hr => exact he
  exact .vec0 T k ro _ he hr0 hk
theorem ORel.keep {μ : Inj} {T : Tgt} {o : IObj} {W W' : World} (h : ∃ o', W.heap[T.c]? = some o' ∧ ORel μ T o o') (hsz : W.heap.size ≤ W'.heap.size) (hs : ¬ o.void T → W'.heap[T.c]? = W.heap[T.c]?) : ∃ o', W'.heap[T.c]? = some o' ∧ ORel μ T o o' := by
  obtain ⟨o', h1, h2⟩ := h
  by_cases hv : o.void T
  · have hl : T.c < W'.heap.size := by
      refine Nat.lt_of_lt_of_le ?_ hsz
      rcases Nat.lt_or_ge T.c W.heap.size with h' | h'
      · exact h'
      · rw [Array.getElem?_eq_none h'] at h1; cases h1
    exact ⟨_, Array.getElem?_eq_getElem hl, h2.revoid μ hv _⟩
  · exact ⟨o', by rw [hs hv]; exact h1, h2⟩
theorem lt_of_heap {W : World} {i : Nat} {o : Obj} (h : W.heap[i]? = some o) : i < W.heap.size := by
  rcases Nat.lt_or_ge i W.heap.size with h' | h'
  · exact h'
  · rw [Array.getElem?_eq_none h'] at h; cases h
theorem RepP.bnd {ν : Inj} {W : World} {s : Pk} {T : Tgt} {F : Nat → Prop} (h : RepP ν W s T F) : F T.c ∧ ∀ i, F i → i < W.heap.size := by
  induction h with
  | mk s objs ts Fs T F hr hl hT hroot hobj hcell hbld hext hpack hdis hF ih =>
    have one : ∀ i, i < objs.length → ∃ o T', objs[i]? = some o ∧ ts[i]? = some T' ∧ (¬ o.void T' → Fs i T'.c) ∧ ∀ x, Fs i x → x < W.heap.size := by
      intro i hi
      have ho := List.getElem?_eq_getElem hi
      have ht := List.getElem?_eq_getElem (l := ts) (i := i) (by omega)
      refine ⟨_, _, ho, ht, ?_⟩
      cases hab : (objs[i]).isAbs
      · have hc := hcell i _ _ ho ht hab
        obtain ⟨_, _, o', h1, _⟩ := hobj i _ _ ho ht
        exact ⟨fun hv => (hc _).2 ⟨rfl, hv⟩, fun x hx => by rw [((hc x).1 hx).1]; exact lt_of_heap h1⟩
      · obtain ⟨a, ro, ha⟩ := isAbs_eq hab
        rw [ha] at ho
        cases a with
        | bld t e l => exact ⟨fun _ => (BldRep.bnd (hbld i t e l ro _ ho ht)).1, (BldRep.bnd (hbld i t e l ro _ ho ht)).2⟩
        | pack s' => exact ⟨fun _ => (ih i s' ro _ ho ht).1, (ih i s' ro _ ho ht).2⟩
    have h0 : 0 < objs.length := by
      rcases Nat.eq_zero_or_pos objs.length with h | h
      · rw [List.getElem?_eq_none (by omega)] at hT; cases hT
      · exact h
    obtain ⟨o, T', e0, e1, e2, _⟩ := one 0 h0
    rw [hT] at e1; cases e1
    refine ⟨(hF _).2 ⟨0, h0, e2 (hroot o e0)⟩, fun x hx => ?_⟩
    obtain ⟨i, hi, hx⟩ := (hF x).1 hx
    obtain ⟨_, _, _, _, _, e3⟩ := one i hi
    exact e3 x hx
theorem RepP.loc {ν : Inj} {W W' : World} (hsz : W.heap.size ≤ W'.heap.size) {s : Pk} {T : Tgt} {F : Nat → Prop} (h : RepP ν W s T F) : (∀ i, F i → W'.heap[i]? = W.heap[i]?) → RepP ν W' s T F := by
  induction h with
  | mk s objs ts Fs T F hr hl hT hroot hobj hcell hbld hext hpack hdis hF ih =>
    intro hs
    have hin : ∀ i, i < objs.length → ∀ x, Fs i x → W'.heap[x]? = W.heap[x]? := fun i hi x hx => hs x ((hF x).2 ⟨i, hi, hx⟩)
    have lt : ∀ (i : Nat) (o : IObj), objs[i]? = some o → i < objs.length := fun i o ho => (List.getElem?_eq_some_iff.1 ho).1
    refine .mk s objs ts Fs T F hr hl hT hroot ?_ hcell ?_ hext ?_ hdis hF
    · intro i o T' ho ht
      obtain ⟨h1, h2, o', h3, h4⟩ := hobj i o T' ho ht
      refine ⟨h1, h2, ?_⟩
      by_cases hv : o.void T'
      · have hl' : T'.c < W'.heap.size := Nat.lt_of_lt_of_le (lt_of_heap h3) hsz
        refine ⟨W'.heap[T'.c], Array.getElem?_eq_getElem hl', ?_⟩
        cases o <;> first | (exact hv.elim) | skip
        rename_i k l ro
        obtain ⟨hl0, hr0, hk⟩ := hv
        subst hl0
        have he : k.length = T'.e := by
          cases h4 with
          | vec _ _ _ _ hc => cases hc with
            | cells _ _ _ _ _ _ _ he => exact he
          | vec0 _ _ _ he hr => exact he
        exact .vec0 T' k ro _ he hr0 hk
      · refine ⟨o', ?_, h4⟩
        rw [hin i (lt i o ho)]
        · exact h3
        · cases hab : o.isAbs
          · exact (hcell i o T' ho ht hab _).2 ⟨rfl, hv⟩
          · obtain ⟨a, ro, rfl⟩ := isAbs_eq hab
            cases a with
            | bld t e l => exact (BldRep.bnd (hbld i t e l ro T' ho ht)).1
            | pack s' => exact (RepP.bnd (hpack i s' ro T' ho ht)).1
    · intro i t e l ro T' ho ht
      exact (hbld i t e l ro T' ho ht).loc (hin i (lt i _ ho))
    · intro i s' ro T' ho ht
      exact ih i s' ro T' ho ht (hin i (lt i _ ho))
theorem RepP.mono {ν ν' : Inj} (hle : ν.le ν') {W : World} {s : Pk} {T : Tgt} {F : Nat → Prop} (h : RepP ν W s T F) : RepP ν' W s T F := by
  induction h with
  | mk s objs ts Fs T F hr hl hT hroot hobj hcell hbld hext hpack hdis hF ih =>
    refine .mk s objs ts Fs T F hr hl hT hroot (fun i o T' ho ht => ?_) hcell hbld hext ih hdis hF
    obtain ⟨h1, h2, o', h3, h4⟩ := hobj i o T' ho ht
    exact ⟨h1, h2, o', h3, h4.mono (gmap_le hle _ _)⟩
theorem RepP.closed {ν : Inj} (ν' : Inj) {W : World} {s : Pk} {T : Tgt} {F : Nat → Prop} (h : RepP ν W s T F) : pkExt s = [] → RepP ν' W s T F := by
  induction h with
  | mk s objs ts Fs T F hr hl hT hroot hobj hcell hbld hext hpack hdis hF ih =>
    intro he
    refine .mk s objs ts Fs T F hr hl hT hroot (fun i o T' ho ht => ?_) hcell hbld hext (fun i s' ro T' ho ht => ih i s' ro T' ho ht (hext i s' ro ho)) hdis hF
    obtain ⟨h1, h2, o', h3, h4⟩ := hobj i o T' ho ht
    refine ⟨h1, h2, o', h3, ?_⟩
    rw [he] at h4 ⊢
    rw [gmap_nil ν' ν]; exact h4
theorem RepG.loc : ∀ {ν : Inj} a T F (W W' : World), W.heap.size ≤ W'.heap.size → RepG ν a T F W → (∀ i, F i → W'.heap[i]? = W.heap[i]?) → RepG ν a T F W' := by
  intro ν a T F W W' hsz h hs
  cases a with
  | bld t e l => exact BldRep.loc h hs
  | pack s => exact RepP.loc hsz h hs
theorem RepG.mono {ν ν' : Inj} (hle : ν.le ν') {a : Abs} {T : Tgt} {F : Nat → Prop} {W : World} (h : RepG ν a T F W) : RepG ν' a T F W := by
  cases a with
  | bld t e l => exact h
  | pack s => exact RepP.mono hle h
theorem RepG.bnd : ∀ {ν : Inj} a T F W, RepG ν a T F W → F T.c ∧ ∀ i, F i → i < W.heap.size := by
  intro ν a T F W h
  cases a with
  | bld t e l => exact BldRep.bnd h
  | pack s => exact RepP.bnd h
def Abs.ext : Abs → List Nat
  | .bld _ _ _ => []
  | .pack s => pkExt s
def nilB : List Nat → Bool
  | [] => true
  | _ => false
def Abs.shutB (a : Abs) : Bool := nilB a.ext
theorem Abs.shutB_eq {a : Abs} (h : a.shutB = true) : a.ext = [] := by
  unfold Abs.shutB at h
  cases he : a.ext with
  | nil => rfl
  | cons x l => rw [he] at h; cases h
theorem RepG.closed {ν : Inj} (ν' : Inj) {a : Abs} {T : Tgt} {F : Nat → Prop} {W : World} (h : RepG ν a T F W) (he : a.ext = []) : RepG ν' a T F W := by
  cases a with
  | bld t e l => exact h
  | pack s => exact RepP.closed ν' h he
structure Env where
  K : Nat → Prop
  mu0 : Inj

structure AbsOk (base : Env) (μ : Inj) (H : IHeap) (W : World) (φ : Nat → Nat → Prop) : Prop where
  rep : ∀ b a ro T, H.get b = some (.abs a ro) → μ b = some T → RepG μ a T (φ b) W ∧ (ro = false → ∀ i, φ b i → ¬ base.K i)
  far : ∀ b a ro T, H.get b = some (.abs a ro) → μ b = some T → ∀ b2 o2 T2, H.get b2 = some o2 → μ b2 = some T2 → b2 ≠ b → ¬ o2.void T2 → ¬ φ b T2.c ∧ (o2.isAbs = true → ∀ i, φ b i → ¬ φ b2 i)

theorem IHeap.get_of_del {H : IHeap} {b i : Nat} {o : IObj} (e : (H.del b).get i = some o) : i ≠ b ∧ H.get i = some o := by
  rw [IHeap.get_del] at e
  by_cases hi : i = b
  · rw [if_pos hi] at e; cases e
  · rw [if_neg hi] at e; exact ⟨hi, e⟩

structure HRel (base : Env) (W0 : World) (μ : Inj) (H : IHeap) (W : World) : Prop where
  obj : ∀ b o, H.get b = some o → ∀ T, μ b = some T → ∃ o', W.heap[T.c]? = some o' ∧ ORel μ T o o'
  own : ∀ b o, H.get b = some o → o.ro = false → ∀ T, μ b = some T → ¬ o.void T → ¬ base.K T.c
  inj : ∀ b1 b2 o1 o2, H.get b1 = some o1 → H.get b2 = some o2 → ∀ T1 T2, μ b1 = some T1 → μ b2 = some T2 → ¬ o1.void T1 → ¬ o2.void T2 → T1.c = T2.c → b1 = b2
  fresh : ∀ b, H.next ≤ b → H.get b = none ∧ μ b = none
  bound : ∀ b T, μ b = some T → T.c < W.heap.size
  size : ∀ i, base.K i → i < W.heap.size
  below : ∀ i, base.K i → W.heap[i]? = W0.heap[i]?
  out : W.output = W0.output
  os : W.os = W0.os
  abs : ∃ φ, AbsOk base μ H W φ
  le : base.mu0.le μ
  grow : W0.heap.size ≤ W.heap.size

structure Evolve (μ : Inj) (H : IHeap) (μ' : Inj) (H' : IHeap) : Prop where
  le : μ.le μ'
  next : H.next ≤ H'.next
  ghost : ∀ b, b < H.next → μ b = none → μ' b = none ∧ H'.get b = H.get b
theorem Evolve.refl (μ : Inj) (H : IHeap) : Evolve μ H μ H := ⟨Inj.le_refl _, Nat.le_refl _, fun _ _ h => ⟨h, rfl⟩⟩
theorem Evolve.trans {μ ν ξ : Inj} {H I J : IHeap} (h : Evolve μ H ν I) (h' : Evolve ν I ξ J) : Evolve μ H ξ J :=
  ⟨Inj.le_trans h.le h'.le, Nat.le_trans h.next h'.next, fun b hb hm =>
    have h1 := h.ghost b hb hm
    have h2 := h'.ghost b (Nat.lt_of_lt_of_le hb h.next) h1.1
    ⟨h2.1, h2.2.trans h1.2⟩⟩

section
variable {base : Env} {W0 : World} {μ : Inj} {H : IHeap} {W : World}

theorem HRel.lt (h : HRel base W0 μ H W) {b : Nat} {o : IObj} (hb : H.get b = some o) : b < H.next := by
  rcases Nat.lt_or_ge b H.next with h' | h'
  · exact h'
  · rw [(h.fresh b h').1] at hb; cases hb
theorem HRel.lt_map (h : HRel base W0 μ H W) {b : Nat} {x : Tgt} (hb : μ b = some x) : b < H.next := by
  rcases Nat.lt_or_ge b H.next with h' | h'
  · exact h'
  · rw [(h.fresh b h').2] at hb; cases hb

theorem HRel.drawn (h : HRel base W0 μ H W) (n : Nat) : HRel base W0 μ H { W with drawn := n } :=
  ⟨h.obj, h.own, h.inj, h.fresh, h.bound, h.size, h.below, h.out, h.os, let ⟨φ, q⟩ := h.abs; ⟨φ, fun b a ro T h1 h2 => let ⟨r1, r2⟩ := q.rep b a ro T h1 h2; ⟨RepG.loc _ _ _ W _ (Nat.le_refl _) r1 (fun _ _ => rfl), r2⟩, q.far⟩, h.le, h.grow⟩

theorem HRel.update (h : HRel base W0 μ H W) {b : Nat} {T : Tgt} {o o1 : IObj} (hb : H.get b = some o) (hro : o.ro = false) (hm : μ b = some T) {W' : World} {o1' : Obj}
    (hsz : W'.heap.size = W.heap.size) (hother : ∀ i, i ≠ T.c → W'.heap[i]? = W.heap[i]?) (hc : W'.heap[T.c]? = some o1') (ho : ORel μ T o1 o1') (hout : W'.output = W.output) (hos : W'.os = W.os)
    (hna1 : o1.isAbs = false := by rfl) (hsol : ¬ o.void T := by exact id) :
    HRel base W0 μ (H.put b o1) W' ∧ Evolve μ H μ (H.put b o1) := by
  have hbase := h.own b o hb hro T hm hsol
  refine ⟨⟨?_, ?_, ?_, ?_, ?_, ?_, ?_, ?_, ?_, ?_, h.le, by rw [hsz]; exact h.grow⟩, ⟨Inj.le_refl _, Nat.le_refl _, ?_⟩⟩
  · intro b' o' hb' T' hm'
    rw [IHeap.get_put] at hb'
    by_cases e : b' = b
    · subst e
      rw [if_pos rfl] at hb'; cases hb'
      rw [hm] at hm'; cases hm'
      exact ⟨o1', hc, ho⟩
    · rw [if_neg e] at hb'
      exact ORel.keep (h.obj b' o' hb' T' hm') (by rw [hsz]; exact Nat.le_refl _) fun hv => hother _ fun e' => e (h.inj b' b _ _ hb' hb T' T hm' hm hv hsol e')
  · intro b' o' hb' hro' T' hm' hv
    rw [IHeap.get_put] at hb'
    by_cases e : b' = b
    · subst e; rw [hm] at hm'; cases hm'; exact hbase
    · rw [if_neg e] at hb'; exact h.own b' o' hb' hro' T' hm' hv
  · intro b1 b2 p1 p2 h1 h2 T1 T2 m1 m2 v1 v2 hcc
    rw [IHeap.get_put] at h1 h2
    by_cases e1 : b1 = b <;> by_cases e2 : b2 = b
    · rw [e1, e2]
    · subst e1; rw [if_neg e2] at h2; rw [hm] at m1; cases m1; exact h.inj b1 b2 _ _ hb h2 _ T2 hm m2 hsol v2 hcc
    · subst e2; rw [if_neg e1] at h1; rw [hm] at m2; cases m2; exact h.inj b1 b2 _ _ h1 hb T1 _ m1 hm v1 hsol hcc
    · rw [if_neg e1] at h1; rw [if_neg e2] at h2; exact h.inj b1 b2 _ _ h1 h2 T1 T2 m1 m2 v1 v2 hcc
  · intro b' hb'
    have hlt := h.lt hb
    have hb2 : H.next ≤ b' := hb'
    refine ⟨?_, (h.fresh b' hb2).2⟩
    rw [IHeap.get_put, if_neg (by omega)]; exact (h.fresh b' hb2).1
  · intro b' T' hm'; rw [hsz]; exact h.bound b' T' hm'
  · intro i hi; rw [hsz]; exact h.size i hi
  · intro i hi; rw [hother i (by rintro rfl; exact hbase hi)]; exact h.below i hi
  · rw [hout]; exact h.out
  · rw [hos]; exact h.os
  · obtain ⟨φ, q⟩ := h.abs
    have key : ∀ b' o', (H.put b o1).get b' = some o' → (b' = b ∧ o' = o1) ∨ (b' ≠ b ∧ H.get b' = some o') := by
      intro b' o' hb'
      rw [IHeap.get_put] at hb'
      by_cases e : b' = b
      · rw [if_pos e] at hb'; cases hb'; exact .inl ⟨e, rfl⟩
      · rw [if_neg e] at hb'; exact .inr ⟨e, hb'⟩
    refine ⟨φ, ?_, ?_⟩
    · intro b' a ro T' hb' hm'
      rcases key b' _ hb' with ⟨_, e⟩ | ⟨hne, hb2⟩
      · rw [← e] at hna1; cases hna1
      · obtain ⟨r1, r2⟩ := q.rep b' a ro T' hb2 hm'
        have hfar := (q.far b' a ro T' hb2 hm' b o T hb hm (Ne.symm hne) hsol).1
        exact ⟨RepG.loc _ _ _ _ _ (by rw [hsz]; exact Nat.le_refl _) r1 (fun i hi => hother i (by rintro rfl; exact hfar hi)), r2⟩
    · intro b' a ro T' hb' hm' b2 o2 T2 hb2 hm2 hne2 hv2
      rcases key b' _ hb' with ⟨_, e⟩ | ⟨hne, hb3⟩
      · rw [← e] at hna1; cases hna1
      · rcases key b2 _ hb2 with ⟨rfl, rfl⟩ | ⟨hne3, hb4⟩
        · rw [hm] at hm2; cases hm2
          exact ⟨(q.far b' a ro T' hb3 hm' b2 o _ hb hm hne2 hsol).1, fun e => by rw [hna1] at e; cases e⟩
        · exact q.far b' a ro T' hb3 hm' b2 o2 T2 hb4 hm2 hne2 hv2
  · intro b' hb' hm'
    refine ⟨hm', ?_⟩
    rw [IHeap.get_put, if_neg]
    rintro rfl; rw [hm] at hm'; cases hm'

theorem HRel.map_new (h : HRel base W0 μ H W) {T : Tgt} {o : IObj} {o' : Obj} {W' : World} (hsz : W.heap.size ≤ W'.heap.size) (hother : ∀ i, i < W.heap.size → i ≠ T.c → W'.heap[i]? = W.heap[i]?)
    (hne : ∀ b p T', H.get b = some p → μ b = some T' → ¬ p.void T' → T'.c ≠ T.c) (hφ : ∃ φ, AbsOk base μ H W φ ∧ ∀ b a ro, H.get b = some (.abs a ro) → (∃ T', μ b = some T') → ¬ φ b T.c)
    (hT : W'.heap[T.c]? = some o') (hbase : ¬ base.K T.c) (ho : ORel μ T o o') (hout : W'.output = W.output) (hos : W'.os = W.os) (hna : o.isAbs = false := by rfl) :
    HRel base W0 (μ.ext H.next T) (H.alloc o) W' ∧ Evolve μ H (μ.ext H.next T) (H.alloc o) := by
  have hn := (h.fresh H.next (Nat.le_refl _)).2
  have hle := Inj.le_ext T hn
  have hlt : T.c < W'.heap.size := by
    rcases Nat.lt_or_ge T.c W'.heap.size with hh | hh
    · exact hh
    · rw [Array.getElem?_eq_none hh] at hT; cases hT
  have key : ∀ i X, (μ.ext H.next T) i = some X → (i = H.next ∧ X = T) ∨ (i ≠ H.next ∧ μ i = some X) := by
    intro i X e
    by_cases hi : i = H.next
    · subst hi; rw [Inj.ext_same] at e; cases e; exact .inl ⟨rfl, rfl⟩
    · rw [Inj.ext_ne _ _ hi] at e; exact .inr ⟨hi, e⟩
  refine ⟨⟨?_, ?_, ?_, ?_, ?_, ?_, ?_, ?_, ?_, ?_, Inj.le_trans h.le hle, Nat.le_trans h.grow hsz⟩, ⟨hle, by simp [IHeap.alloc], ?_⟩⟩
  · intro b p hb X hm
    rcases key b X hm with ⟨rfl, rfl⟩ | ⟨hne', hm'⟩
    · rw [IHeap.get_alloc, if_pos rfl] at hb; cases hb
      exact ⟨o', hT, ho.mono hle⟩
    · rw [IHeap.get_alloc, if_neg hne'] at hb
      obtain ⟨o2, h2, h3⟩ := ORel.keep (W' := W') (h.obj b p hb X hm') hsz fun hv => hother _ (h.bound b X hm') (hne b p X hb hm' hv)
      exact ⟨o2, h2, h3.mono hle⟩
  · intro b p hb hr X hm hv
    rcases key b X hm with ⟨rfl, rfl⟩ | ⟨hne', hm'⟩
    · exact hbase
    · rw [IHeap.get_alloc, if_neg hne'] at hb; exact h.own b p hb hr X hm' hv
  · intro b1 b2 p1 p2 h1 h2 T1 T2 m1 m2 v1 v2 hcc
    rcases key b1 T1 m1 with ⟨e1, rfl⟩ | ⟨n1, m1'⟩ <;> rcases key b2 T2 m2 with ⟨e2, e3⟩ | ⟨n2, m2'⟩
    · rw [e1, e2]
    · rw [IHeap.get_alloc, if_neg n2] at h2
      exact absurd hcc.symm (hne b2 _ T2 h2 m2' v2)
    · rw [IHeap.get_alloc, if_neg n1] at h1
      subst e3
      exact absurd hcc (hne b1 _ T1 h1 m1' v1)
    · rw [IHeap.get_alloc, if_neg n1] at h1; rw [IHeap.get_alloc, if_neg n2] at h2
      exact h.inj b1 b2 _ _ h1 h2 T1 T2 m1' m2' v1 v2 hcc
  · intro b hb
    have hb' : H.next + 1 ≤ b := hb
    refine ⟨?_, ?_⟩
    · rw [IHeap.get_alloc, if_neg (by omega)]; exact (h.fresh b (by omega)).1
    · rw [Inj.ext_ne _ _ (by omega)]; exact (h.fresh b (by omega)).2
  · intro b X hm
    rcases key b X hm with ⟨rfl, rfl⟩ | ⟨hne', hm'⟩
    · exact hlt
    · have := h.bound b X hm'; omega
  · intro i hi; have := h.size i hi; omega
  · intro i hi; rw [hother i (h.size i hi) (by rintro rfl; exact hbase hi)]; exact h.below i hi
  · rw [hout]; exact h.out
  · rw [hos]; exact h.os
  · obtain ⟨φ, q, hq⟩ := hφ
    have key2 : ∀ b' p, (H.alloc o).get b' = some p → (b' = H.next ∧ p = o) ∨ (b' ≠ H.next ∧ H.get b' = some p) := by
      intro b' p hb'
      rw [IHeap.get_alloc] at hb'
      by_cases e : b' = H.next
      · rw [if_pos e] at hb'; cases hb'; exact .inl ⟨e, rfl⟩
      · rw [if_neg e] at hb'; exact .inr ⟨e, hb'⟩
    refine ⟨φ, ?_, ?_⟩
    · intro b' a ro T' hb' hm'
      rcases key2 b' _ hb' with ⟨_, e⟩ | ⟨hne', hb2⟩
      · rw [← e] at hna; cases hna
      · rw [Inj.ext_ne _ _ hne'] at hm'
        obtain ⟨r1, r2⟩ := q.rep b' a ro T' hb2 hm'
        exact ⟨(RepG.loc _ _ _ _ _ hsz r1 (fun i hi => hother i ((RepG.bnd _ _ _ _ r1).2 i hi) (by rintro rfl; exact hq b' a ro hb2 ⟨T', hm'⟩ hi))).mono hle, r2⟩
    · intro b' a ro T' hb' hm' b2 o2 T2 hb2 hm2 hne2 hv2
      rcases key2 b' _ hb' with ⟨_, e⟩ | ⟨hne', hb3⟩
      · rw [← e] at hna; cases hna
      · rw [Inj.ext_ne _ _ hne'] at hm'
        rcases key2 b2 _ hb2 with ⟨rfl, rfl⟩ | ⟨hne3, hb4⟩
        · rw [Inj.ext_same] at hm2; cases hm2
          exact ⟨hq b' a ro hb3 ⟨T', hm'⟩, fun e => by rw [hna] at e; cases e⟩
        · rw [Inj.ext_ne _ _ hne3] at hm2
          exact q.far b' a ro T' hb3 hm' b2 o2 T2 hb4 hm2 hne2 hv2
  · intro b hb hm
    have hb' : b < H.next := hb
    refine ⟨?_, ?_⟩
    · rw [Inj.ext_ne _ _ (by omega)]; exact hm
    · rw [IHeap.get_alloc, if_neg (by omega)]

theorem HRel.alloc (h : HRel base W0 μ H W) {T : Tgt} {o : IObj} {o' : Obj} (hT : T.c = W.heap.size) (ho : ORel μ T o o') (hna : o.isAbs = false := by rfl) :
    HRel base W0 (μ.ext H.next T) (H.alloc o) (W.alloc o') ∧ Evolve μ H (μ.ext H.next T) (H.alloc o) := by
  have old : ∀ i, i < W.heap.size → (W.alloc o').heap[i]? = W.heap[i]? := by
    intro i hi
    show (W.heap.push o')[i]? = W.heap[i]?
    rw [Array.getElem?_push, if_neg (by omega)]
  obtain ⟨φ, q⟩ := h.abs
  refine h.map_new (by simp) (fun i hi _ => old i hi) (fun b p T' hb hm => by have := h.bound b T' hm; omega) ⟨φ, q, fun b a ro hb ⟨T', hm⟩ hc => ?_⟩ ?_ (fun hk => by have := h.size _ hk; omega) ho rfl rfl hna
  · have := (RepG.bnd _ _ _ _ (q.rep b a ro T' hb hm).1).2 _ hc
    omega
  rw [hT]
  show (W.heap.push o')[W.heap.size]? = some o'
  simp

theorem HRel.del (h : HRel base W0 μ H W) {b : Nat} {T : Tgt} (hm : μ b = some T) : HRel base W0 μ (H.del b) W ∧ Evolve μ H μ (H.del b) := by
  have key : ∀ i o, (H.del b).get i = some o → i ≠ b ∧ H.get i = some o := by
    intro i o e
    rw [IHeap.get_del] at e
    by_cases hi : i = b
    · rw [if_pos hi] at e; cases e
    · rw [if_neg hi] at e; exact ⟨hi, e⟩
  refine ⟨⟨fun i o e => h.obj i o (key i o e).2, fun i o e => h.own i o (key i o e).2, fun b1 b2 o1 o2 h1 h2 => h.inj b1 b2 o1 o2 (key _ _ h1).2 (key _ _ h2).2, ?_, h.bound, h.size, h.below, h.out, h.os,
    let ⟨φ, q⟩ := h.abs; ⟨φ, fun b' a ro T' h1 h2 => q.rep b' a ro T' (key _ _ h1).2 h2, fun b' a ro T' h1 h2 b2 o2 T2 h3 h4 h5 => q.far b' a ro T' (key _ _ h1).2 h2 b2 o2 T2 (key _ _ h3).2 h4 h5⟩, h.le, h.grow⟩,
    ⟨Inj.le_refl _, Nat.le_refl _, ?_⟩⟩
  · intro i hi
    refine ⟨?_, (h.fresh i hi).2⟩
    rw [IHeap.get_del]
    by_cases e : i = b
    · rw [if_pos e]
    · rw [if_neg e]; exact (h.fresh i hi).1
  · intro i hi hn
    refine ⟨hn, ?_⟩
    rw [IHeap.get_del, if_neg]
    rintro rfl; rw [hm] at hn; cases hn

theorem HRel.cell (h : HRel base W0 μ H W) {b e i : Nat} {T : Tgt} {cs : List Value} {ro : Bool} {v : Value} (hb : H.get b = some (.cells cs e ro)) (hm : μ b = some T) (hv : cs[i]? = some v) :
    ∃ v', W.cell? ⟨T.c, T.d + i, none⟩ = some v' ∧ VRel μ v v' := by
  obtain ⟨o', ho', hr⟩ := h.obj b _ hb T hm
  cases hr with
  | cells _ _ _ a t lo hi he hc hr hf =>
    obtain ⟨v', h1, h2⟩ := hc.get? hv
    refine ⟨v', ?_, h2⟩
    simp only [World.cell?, ho']
    rw [List.getElem?_take] at h1
    split at h1
    · rw [List.getElem?_drop] at h1; simpa using h1
    · cases h1
theorem HRel.frozen (h : HRel base W0 μ H W) {b e i : Nat} {T : Tgt} {cs : List Value} {v : Value} (hb : H.get b = some (.cells cs e false)) (hm : μ b = some T) (hv : cs[i]? = some v) :
    W.frozen? ⟨T.c, T.d + i, none⟩ = false := by
  obtain ⟨v', hc', _⟩ := h.cell hb hm hv
  obtain ⟨o', ho', hr⟩ := h.obj b _ hb T hm
  cases hr with
  | cells _ _ _ a t lo hi he hc hr hf =>
    simp only [World.cell?, ho'] at hc'
    simp only [World.frozen?, ho']
    have hlt : T.d + i < a.size := by
      rcases Nat.lt_or_ge (T.d + i) a.size with hh | hh
      · exact hh
      · rw [Array.getElem?_eq_none hh] at hc'; simp at hc'
    have := hf rfl (T.d + i) (.inl hlt)
    simp only [Bool.and_eq_false_iff, decide_eq_false_iff_not]
    omega

theorem HRel.row (h : HRel base W0 μ H W) {b e off : Nat} {T : Tgt} {cs l : List Value} {ro : Bool} (hb : H.get b = some (.cells cs e ro)) (hm : μ b = some T) (hl : (cs.drop off).take l.length = l) (P : Program) :
    ∃ l', LRel μ l l' ∧ (loadCells ⟨T.c, T.d + off, none⟩ l.length).run P W = .ok l'.toArray W ∧ ∀ j v, l'[j]? = some v → W.cell? ⟨T.c, T.d + off + j, none⟩ = some v := by
  have key : ∀ (n : Nat) (l : List Value), l.length = n → (∀ j v, l[j]? = some v → cs[off + j]? = some v) → ∃ l', LRel μ l l' ∧ ∀ j v, l'[j]? = some v → W.cell? ⟨T.c, T.d + off + j, none⟩ = some v := by
    intro n
    induction n with
    | zero =>
      intro l hl _
      obtain rfl := List.eq_nil_of_length_eq_zero hl
      exact ⟨[], .nil, fun j v e => by simp at e⟩
    | succ n ih =>
      intro l hl hj
      obtain ⟨l0, x, rfl⟩ : ∃ l0 x, l = l0 ++ [x] := ⟨l.dropLast, l.getLast (by intro e; subst e; simp at hl), (List.dropLast_concat_getLast _).symm⟩
      simp at hl
      obtain ⟨l', h1, h2⟩ := ih l0 hl fun j v e => hj j v (by
        rw [List.getElem?_append_left (by have := (List.getElem?_eq_some_iff.1 e).1; exact this)]; exact e)
      obtain ⟨x', h3, h4⟩ := h.cell hb hm (hj l0.length x (by simp))
      refine ⟨l' ++ [x'], h1.append (.cons h4 .nil), fun j v e => ?_⟩
      rcases Nat.lt_or_ge j l'.length with hlt | hge
      · rw [List.getElem?_append_left hlt] at e; exact h2 j v e
      · rw [List.getElem?_append_right hge] at e
        have hz : j - l'.length = 0 := by
          rcases Nat.eq_zero_or_pos (j - l'.length) with e0 | e0
          · exact e0
          · rw [List.getElem?_eq_none (by simp; omega)] at e; cases e
        rw [hz] at e; simp at e; subst e
        have : j = l0.length := by have := h1.length; omega
        subst this
        rw [Nat.add_assoc]; exact h3
  obtain ⟨l', h1, h2⟩ := key l.length l rfl (fun j v e => by
    rw [← hl, List.getElem?_take] at e
    split at e
    · rwa [List.getElem?_drop] at e
    · cases e)
  refine ⟨l', h1, ?_, h2⟩
  rw [h1.length]
  exact run_loadCells_list W _ l' fun j v e => by
    have := h2 j v e
    have hadd : (⟨T.c, T.d + off, none⟩ : Addr).add j = ⟨T.c, T.d + off + j, none⟩ := by unfold Addr.add; split <;> simp_all
    rw [hadd]; exact this

theorem drop_take_set (c : List Value) (d n i : Nat) (v : Value) (hi : i < n) : ((c.set (d + i) v).drop d).take n = ((c.drop d).take n).set i v := by
  apply List.ext_getElem?
  intro j
  rw [List.getElem?_take, List.getElem?_drop, List.getElem?_set, List.getElem?_set, List.getElem?_take, List.getElem?_drop]
  by_cases hj : j < n <;> by_cases e : i = j
  · subst e; simp [hj]
    by_cases hs : d + i < c.length
    · simp [hs]; omega
    · simp [hs]; omega
  · simp [hj, e]
  · omega
  · simp [hj, e]

theorem HRel.store1 (h : HRel base W0 μ H W) {b e i : Nat} {T : Tgt} {cs : List Value} {v v' : Value} (hb : H.get b = some (.cells cs e false)) (hm : μ b = some T) (hi : i < cs.length) (hv : VRel μ v v') :
    HRel base W0 μ (H.put b (.cells (cs.set i v) e false)) (W.setCell ⟨T.c, T.d + i, none⟩ v') ∧ Evolve μ H μ (H.put b (.cells (cs.set i v) e false)) := by
  obtain ⟨o', ho', hr⟩ := h.obj b _ hb T hm
  cases hr with
  | cells _ _ _ a t lo hi' he hc hr hf =>
    refine h.update (o1' := .cells (a.setIfInBounds (T.d + i) v') t (lo, hi')) hb rfl hm (by simp) (fun j hj => ?_) ?_ ?_ rfl rfl
    · simp only [World.setCell, Array.getElem?_modify]
      rw [if_neg (Ne.symm hj)]
    · simp only [World.setCell, Array.getElem?_modify, if_true, ho']
      rfl
    · refine .cells T _ _ false _ t lo hi' he ?_ (by simpa using hr) (fun _ j hj => hf rfl j (by simpa using hj))
      have hlen := hc.length
      rw [List.length_set, Array.toList_setIfInBounds, drop_take_set _ _ _ _ _ hi]
      exact hc.set i hv

theorem put_put (H : IHeap) (b : Nat) (x y : IObj) : (H.put b x).put b y = H.put b y := by
  unfold IHeap.put Tr.put
  have : ∀ (p : Pth) (t : Tr IObj), (t.setP (some x) p).setP (some y) p = t.setP (some y) p := by
    intro p
    induction p with
    | e => intro t; cases t <;> rfl
    | z p ih => intro t; cases t with
      | leaf => show Tr.node (((Tr.leaf).setP (some x) p).setP (some y) p) none .leaf = _; rw [ih]; rfl
      | node l v r => show Tr.node ((l.setP (some x) p).setP (some y) p) v r = _; rw [ih]; rfl
    | o p ih => intro t; cases t with
      | leaf => show Tr.node .leaf none (((Tr.leaf).setP (some x) p).setP (some y) p) = _; rw [ih]; rfl
      | node l v r => show Tr.node l v ((r.setP (some x) p).setP (some y) p) = _; rw [ih]; rfl
  simp [this]

def splice (cs : List Value) (i : Nat) (l : List Value) : List Value := cs.take i ++ (l ++ cs.drop (i + l.length))

theorem splice_cons (cs : List Value) (i : Nat) (v : Value) (l : List Value) (h : i + (l.length + 1) ≤ cs.length) : splice cs i (v :: l) = splice (cs.set i v) (i + 1) l := by
  induction i generalizing cs with
  | zero =>
    cases cs with
    | nil => simp at h
    | cons x cs => simp [splice, Nat.add_comm 1]
  | succ i ih =>
    cases cs with
    | nil => simp at h
    | cons x cs =>
      have := ih cs (by simp at h; omega)
      simp only [splice, List.set_cons_succ, List.take_succ_cons, List.length_cons] at this ⊢
      rw [show i + 1 + (l.length + 1) = (i + (l.length + 1)) + 1 by omega, show i + 1 + 1 + l.length = (i + 1 + l.length) + 1 by omega, List.drop_succ_cons, List.drop_succ_cons]
      exact congrArg (List.cons x) this

theorem splice_nil (cs : List Value) (i : Nat) : splice cs i [] = cs := by simp [splice]

def okCell : Value → Bool
  | .agg _ | .tuple _ | .chan _ => false
  | _ => true
theorem okCell_rel {v v' : Value} (h : VRel μ v v') (ho : okCell v = true) : v'.oneCell' = true := by
  cases h <;> first | rfl | (simp [okCell, junk] at ho)

theorem HRel.stores (P : Program) {b e : Nat} {T : Tgt} (hm : μ b = some T) : ∀ (l l' : List Value) (H : IHeap) (W : World) (cs : List Value) (i k : Nat), HRel base W0 μ H W → H.get b = some (.cells cs e false) → LRel μ l l' → l.all okCell = true →
    i + k + l.length ≤ cs.length → ∃ W', (storeCells ⟨T.c, T.d + i, none⟩ l' k).run P W = .ok () W' ∧ HRel base W0 μ (H.put b (.cells (splice cs (i + k) l) e false)) W' ∧ Evolve μ H μ (H.put b (.cells (splice cs (i + k) l) e false)) := by
  intro l
  induction l with
  | nil =>
    intro l' H W cs i k h hb hl _ _
    cases hl
    refine ⟨W, rfl, ?_⟩
    rw [splice_nil]
    obtain ⟨o', ho', hr⟩ := h.obj b _ hb T hm
    exact h.update hb rfl hm rfl (fun _ _ => rfl) ho' hr rfl rfl
  | cons v l ih =>
    intro l' H W cs i k h hb hl hok hlen
    cases hl with
    | @cons _ v' _ l' hv ht =>
      simp only [List.all_cons, Bool.and_eq_true] at hok
      simp only [List.length_cons] at hlen
      have hadd : (⟨T.c, T.d + i, none⟩ : Addr).add k = ⟨T.c, T.d + (i + k), none⟩ := by unfold Addr.add; split <;> simp_all; omega
      have hget : cs[i + k]? = some (cs[i + k]'(by omega)) := List.getElem?_eq_getElem (by omega)
      obtain ⟨u, hu, _⟩ := h.cell hb hm hget
      have hfz := h.frozen hb hm hget
      have hst : (store ((⟨T.c, T.d + i, none⟩ : Addr).add k) v').run P W = .ok () (W.setCell ⟨T.c, T.d + (i + k), none⟩ v') := by
        rw [hadd, run_store P W _ v' _ (okCell_rel hv hok.1)]
        simp [hu, hfz]
      obtain ⟨h1, e1⟩ := h.store1 (v := v) hb hm (i := i + k) (by omega) hv
      obtain ⟨W', hw, h2, e2⟩ := ih l' _ _ (cs.set (i + k) v) i (k + 1) h1 (by rw [IHeap.get_put, if_pos rfl]) ht hok.2 (by simp; omega)
      refine ⟨W', ?_, ?_, ?_⟩
      · simp only [storeCells, Sem.run_bind, hst, Result.andThen_ok, hw]
      · rw [put_put] at h2; rw [splice_cons _ _ _ _ (by omega)]; exact h2
      · have := e1.trans e2
        rw [put_put] at this; rw [splice_cons _ _ _ _ (by omega)]; exact this

end
end Go.Ideal

namespace Go.Ideal

noncomputable def pureRun {α : Type} (P : Program) (s : Sem α) : Option α :=
  Sem.rec (motive := fun _ => Option α) (fun a => some a) (fun _ _ _ _ => none) (fun _ _ _ _ _ => none) (fun _ _ _ => none) (fun _ _ _ => none) (fun _ _ _ _ => none) (fun _ _ _ => none)
    (fun _ _ _ => none) (fun _ _ _ _ => none) (fun _ _ _ => none) (fun _ _ _ => none) (fun _ ih => ih P) (fun _ _ ih => ih) (fun _ => none) s

theorem pureRun_run {α : Type} {P : Program} {s : Sem α} {a : α} (h : pureRun P s = some a) (w : World) : s.run P w = .ok a w := by
  induction s with
  | pure b => simp [pureRun] at h; subst h; rfl
  | program k ih => exact ih P h
  | mark m k ih => exact ih h
  | _ => simp [pureRun] at h

def flatN : Nat → Value → Bool
  | 0, _ => false
  | n + 1, v => match v with
    | .bool _ | .int _ _ | .float _ _ | .string _ | .pointer none | .slice none _ _ | .map none | .nilFunc | .nilIface => true
    | .iface _ v => flatN n v
    | .agg cs | .tuple cs => cs.toList.all (flatN n)
    | _ => false

theorem flatN_eq {μ : Inj} : ∀ (n : Nat) (v v' : Value), flatN n v = true → VRel μ v v' → v' = v := by
  intro n
  induction n with
  | zero => intro v v' h; cases h
  | succ n ih =>
    have hl : ∀ (l l' : List Value), l.all (flatN n) = true → LRel μ l l' → l' = l := by
      intro l
      induction l with
      | nil => intro l' _ h; cases h; rfl
      | cons a l ihl =>
        intro l' h hr
        cases hr with
        | cons hv ht =>
          simp only [List.all_cons, Bool.and_eq_true] at h
          rw [ih _ _ h.1 hv, ihl _ h.2 ht]
    intro v v' h hr
    cases hr with
    | junk => simp [flatN, junk] at h
    | iface t a a' hv => simp only [flatN] at h; rw [ih _ _ h hv]
    | agg xs xs' hx ex =>
      obtain ⟨ys, he, hl'⟩ := VRel.agg_iff.1 (.agg xs xs' hx ex)
      cases he
      simp only [flatN] at h
      have := hl _ _ h hl'
      rw [Array.toList_inj.1 this]
    | tuple xs xs' hx ex =>
      obtain ⟨ys, he, hl'⟩ := VRel.tuple_iff.1 (.tuple xs xs' hx ex)
      cases he
      simp only [flatN] at h
      have := hl _ _ h hl'
      rw [Array.toList_inj.1 this]
    | bool | int | float | string | nilptr | nilslice | nilmap | nilFunc | nilIface => rfl
    | ptr | slice | vptr | vslice | vnil | map | func => simp [flatN] at h

theorem flatN_refl (μ : Inj) : ∀ (n : Nat) (v : Value), flatN n v = true → VRel μ v v := by
  intro n
  induction n with
  | zero => intro v h; cases h
  | succ n ih =>
    have hl : ∀ (l : List Value), l.all (flatN n) = true → LRel μ l l := by
      intro l
      induction l with
      | nil => intro _; exact .nil
      | cons a l ihl =>
        intro h
        simp only [List.all_cons, Bool.and_eq_true] at h
        exact .cons (ih _ h.1) (ihl h.2)
    intro v h
    unfold flatN at h
    split at h
    · exact .bool _
    · exact .int _ _
    · exact .float _ _
    · exact .string _
    · exact .nilptr
    · exact .nilslice _ _
    · exact .nilmap
    · exact .nilFunc
    · exact .nilIface
    · exact .iface _ _ _ (ih _ h)
    · exact VRel.agg_iff.2 ⟨_, rfl, hl _ h⟩
    · exact VRel.tuple_iff.2 ⟨_, rfl, hl _ h⟩
    · cases h

def flat (v : Value) : Bool := flatN 8 v
theorem flat_eq {μ : Inj} {v v' : Value} (h : flat v = true) (hr : VRel μ v v') : v' = v := flatN_eq 8 v v' h hr
theorem flat_refl {μ : Inj} {v : Value} (h : flat v = true) : VRel μ v v := flatN_refl μ 8 v h

def bnd (x : Value) (y : Nat) : Option Nat :=
  match x with
  | .int _ (.ofNat k) => bif Nat.ble k y then some k else none
  | _ => none
def ibounds (len cap : Nat) (low high max : Option Value) : Option (Nat × Nat × Nat) :=
  (match max with | some v => bnd v cap | none => some cap).bind fun m =>
  (match high, max with | some v, _ => bnd v m | none, none => some len | none, some _ => none).bind fun h =>
  (match low with | some v => bnd v h | none => some 0).bind fun l => some (l, h, m)

def ifill (place : Nat → Option (Nat × Nat)) (cells : List Value) : List (Nat × Value) → Option (List Value)
  | [] => some cells
  | (i, v) :: rest =>
    match place i with
    | none => none
    | some (off, size) =>
      let l := v.cells.toList
      bif Nat.beq l.length size && Nat.ble (off + l.length) cells.length then ifill place (splice cells off l) rest else none

def zeroL (P : Program) (t : TypeId) : Option (List Value) :=
  match P.info? t with
  | some i => match i.zero with
    | some z => bif flat z then some z.cells.toList else none
    | none => none
  | none => none
def sizeT (P : Program) (t : TypeId) : Option Nat := (P.info? t).map (·.size)
def structPlaces (P : Program) (fields : Array Field) : Option (List (Nat × Nat)) :=
  fields.toList.mapM (fun f => (P.info? f.type).map fun i => (f.offset, i.size))

def ibuild (P : Program) (t : TypeId) (parts : List (Nat × Value)) : Option Value :=
  match zeroL P t, P.underlying t with
  | some z, some (.array _ e) => match sizeT P e with
    | some n => (ifill (fun i => some (i * n, n)) z parts).map fun l => .agg ⟨l⟩
    | none => none
  | some z, some (.struct fields) => match structPlaces P fields with
    | some pl => (ifill (fun i => pl[i]?) z parts).map fun l => .agg ⟨l⟩
    | none => none
  | _, _ => none

def zerosL (z : List Value) (n : Nat) : List Value := (List.range n).map fun i => z.getD (i % z.length) default

noncomputable def ibuildSlice (P : Program) (t : TypeId) (len : Nat) (parts : List (Nat × Value)) (H : IHeap) : Option (Value × IHeap) :=
  match P.underlying t with
  | some (.slice e) => match sizeT P e, zeroL P e with
    | some n, some z =>
      bif Nat.beq (len * n) 0 then
        match parts with
        | [] => some (.slice (some ⟨H.next, 0, none⟩) len len, H.alloc (.cells [] n false))
        | _ => none
      else bif Nat.ble (len * n) 16777216 then
        (ifill (fun i => some (i * n, n)) (zerosL z (len * n)) parts).map fun l => (.slice (some ⟨H.next, 0, none⟩) len len, H.alloc (.cells l n false))
      else none
    | _, _ => none
  | _ => none

def isAggD : TypeDesc → Bool
  | .struct _ | .array _ _ => true
  | _ => false
noncomputable def iload (P : Program) (t : TypeId) (a : Value) (H : IHeap) : Option Value :=
  match a with
  | .pointer (some ⟨b, off, none⟩) =>
    match H.get b with
    | some (.cells cs _ _) =>
      match P.underlying t, sizeT P t with
      | some d, some n =>
        bif isAggD d then
          let l := (cs.drop off).take n
          bif Nat.beq l.length n then some (.agg ⟨l⟩) else none
        else cs[off]?
      | _, _ => none
    | _ => none
  | _ => none
noncomputable def istore (P : Program) (t : TypeId) (a x : Value) (H : IHeap) : Option IHeap :=
  match a with
  | .pointer (some ⟨b, off, none⟩) =>
    match H.get b with
    | some (.cells cs e false) =>
      match sizeT P t with
      | some n =>
        let l := x.cells.toList
        bif Nat.beq l.length n && l.all okCell && Nat.ble (off + l.length) cs.length then some (H.put b (.cells (splice cs off l) e false)) else none
      | _ => none
    | _ => none
  | _ => none

end Go.Ideal

namespace Go.Ideal
section
variable {P : Program} {base : Env} {W0 : World} {μ : Inj} {H : IHeap} {W : World}

theorem sizeT_eq {t : TypeId} {n : Nat} (h : sizeT P t = some n) : ∃ i, P.info? t = some i ∧ i.size = n := by
  unfold sizeT at h
  cases hi : P.info? t with
  | none => simp [hi] at h
  | some i => simp [hi] at h; exact ⟨i, rfl, h⟩
theorem run_sizeOf' {t : TypeId} {n : Nat} (h : sizeT P t = some n) (w : World) : (sizeOf t).run P w = .ok n w := by
  obtain ⟨i, hi, rfl⟩ := sizeT_eq h
  simp [sizeOf, typeInfo, hi]
theorem zeroL_eq {t : TypeId} {l : List Value} (h : zeroL P t = some l) : ∃ i z, P.info? t = some i ∧ i.zero = some z ∧ flat z = true ∧ z.cells.toList = l := by
  unfold zeroL at h
  cases hi : P.info? t with
  | none => simp [hi] at h
  | some i =>
    cases hz : i.zero with
    | none => simp [hi, hz] at h
    | some z =>
      simp only [hi, hz] at h
      cases hf : flat z <;> simp [hf] at h
      exact ⟨i, z, rfl, hz, hf, h⟩
theorem run_zeroValue' {t : TypeId} {l : List Value} (h : zeroL P t = some l) (w : World) : ∃ z, (zeroValue t).run P w = .ok z w ∧ flat z = true ∧ z.cells.toList = l := by
  obtain ⟨i, z, hi, hz, hf, hl⟩ := zeroL_eq h
  exact ⟨z, by simp [zeroValue, typeInfo, hi, hz], hf, hl⟩
theorem cells_rel {v v' : Value} (h : VRel μ v v') (hok : ∀ c, v ≠ .chan c) : LRel μ v.cells.toList v'.cells.toList := by
  cases h with
  | junk v => exact absurd rfl (hok _)
  | agg xs xs' hx ex =>
    obtain ⟨ys, he, hl⟩ := VRel.agg_iff.1 (.agg xs xs' hx ex)
    cases he; exact hl
  | bool | int | float | string | nilptr | nilslice | nilmap | nilFunc | nilIface => first | exact .cons (.bool _) .nil | exact .cons (.int _ _) .nil | exact .cons (.float _ _) .nil | exact .cons (.string _) .nil | exact .cons .nilptr .nil | exact .cons (.nilslice _ _) .nil | exact .cons .nilmap .nil | exact .cons .nilFunc .nil | exact .cons .nilIface .nil
  | ptr b o T h => exact .cons (.ptr b o T h) .nil
  | slice b o l k k' o' T h hc ho => exact .cons (.slice b o l k k' o' T h hc ho) .nil
  | vptr b o i T h => exact .cons (.vptr b o i T h) .nil
  | vslice b i l k k' o' T h hc ho hr => exact .cons (.vslice b i l k k' o' T h hc ho hr) .nil
  | vnil b i k T a h hc => exact .cons (.vnil b i k T a h hc) .nil
  | map b T h => exact .cons (.map b T h) .nil
  | func fn fn' xs xs' ys ys' hf hx ex hy ey => exact .cons (.func fn fn' xs xs' ys ys' hf hx ex hy ey) .nil
  | iface t v v' h => exact .cons (.iface t v v' h) .nil
  | tuple xs xs' hx ex => exact .cons (.tuple xs xs' hx ex) .nil
theorem flat_cells {z : Value} (h : flat z = true) : LRel μ z.cells.toList z.cells.toList :=
  cells_rel (flat_refl h) (by rintro c rfl; simp [flat, flatN] at h)

theorem run_isAgg' {t : TypeId} {d : TypeDesc} (h : P.underlying t = some d) (w : World) : (isAgg t).run P w = .ok (isAggD d) w := by
  cases d <;> simp [isAgg, run_underlying h, isAggD]

theorem load_sim (h : HRel base W0 μ H W) {t : TypeId} {a a' v : Value} (ha : VRel μ a a') (hi : iload P t a H = some v) :
    ∃ v', (Instr.loadAt t a').run P W = .ok v' W ∧ VRel μ v v' := by
  unfold iload at hi
  split at hi
  · rename_i b off
    cases ha with
    | ptr _ _ T hm =>
      split at hi
      · rename_i cs e ro hb
        split at hi
        · rename_i dd n hd hn
          simp only [Instr.loadAt, Instr.sureAddr, Sem.run_bind, Sem.run_pure, Result.andThen_ok, loadVar, run_isAgg' hd]
          cases hagg : isAggD dd
          · simp only [hagg, cond_false] at hi
            obtain ⟨v', h1, h2⟩ := h.cell hb hm hi
            exact ⟨v', by simp [h1], h2⟩
          · simp only [hagg, cond_true] at hi
            cases hl : Nat.beq ((cs.drop off).take n).length n
            · rw [hl] at hi; cases hi
            · simp only [hl, cond_true, Option.some.injEq] at hi
              subst hi
              have hlen := Nat.eq_of_beq_eq_true hl
              obtain ⟨l', r1, r2, _⟩ := h.row hb hm (off := off) (l := (cs.drop off).take n) (by rw [hlen]) P
              rw [hlen] at r2
              refine ⟨.agg l'.toArray, ?_, VRel.agg_iff.2 ⟨_, rfl, by simpa using r1⟩⟩
              simp [run_sizeOf' hn, r2]
        · cases hi
      · cases hi
  · cases hi

theorem store_sim (h : HRel base W0 μ H W) {t : TypeId} {a a' x x' : Value} {H' : IHeap} (ha : VRel μ a a') (hx : VRel μ x x') (hi : istore P t a x H = some H') :
    ∃ W', (Instr.storeAt t a' x').run P W = .ok () W' ∧ HRel base W0 μ H' W' ∧ Evolve μ H μ H' := by
  unfold istore at hi
  split at hi
  · rename_i b off
    cases ha with
    | ptr _ _ T hm =>
      split at hi
      · rename_i cs e hb
        split at hi
        · rename_i n hn
          cases hc : (Nat.beq x.cells.toList.length n && x.cells.toList.all okCell && Nat.ble (off + x.cells.toList.length) cs.length)
          · simp only [hc, cond_false] at hi; cases hi
          · simp only [hc, cond_true, Option.some.injEq] at hi
            subst hi
            simp only [Bool.and_eq_true] at hc
            obtain ⟨⟨h1, h2⟩, h3⟩ := hc
            have hlen := Nat.eq_of_beq_eq_true h1
            have hle := Nat.le_of_ble_eq_true h3
            have hr := cells_rel hx (by
              rintro k rfl
              simp [Value.cells, okCell] at h2)
            obtain ⟨W', r1, r2, r3⟩ := HRel.stores P hm _ _ H W cs off 0 h hb hr h2 (by simpa using hle)
            refine ⟨W', ?_, r2, r3⟩
            have hsz : x'.cells.size = n := by
              have := hr.length; rw [hlen] at this; simpa using this.symm
            simp only [Instr.storeAt, Instr.sureAddr, Sem.run_bind, Sem.run_pure, Result.andThen_ok, storeVar, run_sizeOf' hn]
            simp only [hsz, ne_eq, not_true_eq_false, if_false]
            exact r1
        · cases hi
      · cases hi
  · cases hi

inductive PRel (μ : Inj) : List (Nat × Value) → List (Nat × Value) → Prop where
  | nil : PRel μ [] []
  | cons {i : Nat} {v v' : Value} {l l' : List (Nat × Value)} (h : VRel μ v v') (hc : ∀ c, v ≠ .chan c) (t : PRel μ l l') : PRel μ ((i, v) :: l) ((i, v') :: l')

theorem foldl_set (vs : List Value) : ∀ (off k : Nat) (cells : Array Value), off + k + vs.length ≤ cells.size →
    ((vs.zipIdx k).foldl (fun cs (x : Value × Nat) => cs.setIfInBounds (off + x.2) x.1) cells).toList = splice cells.toList (off + k) vs := by
  induction vs with
  | nil => intro off k cells _; simp [splice_nil]
  | cons v vs ih =>
    intro off k cells h
    simp only [List.length_cons] at h
    simp only [List.zipIdx_cons, List.foldl_cons]
    rw [ih off (k + 1) _ (by simp; omega), splice_cons _ _ _ _ (by simpa using h)]
    simp [Array.toList_setIfInBounds, Nat.add_assoc]

theorem fill_sim {place : Nat → Option (Nat × Nat)} : ∀ (parts parts' : List (Nat × Value)) (cells : List Value) (cells' : Array Value) (r : List Value), PRel μ parts parts' → LRel μ cells cells'.toList → ifill place cells parts = some r →
    ∃ r', Instr.fill place cells' parts' = some r' ∧ LRel μ r r'.toList := by
  intro parts
  induction parts with
  | nil =>
    intro parts' cells cells' r hp hc hi
    cases hp
    simp [ifill] at hi; subst hi
    exact ⟨cells', rfl, hc⟩
  | cons p parts ih =>
    intro parts' cells cells' r hp hc hi
    cases hp with
    | @cons i v v' _ l' hv hch ht =>
      simp only [ifill] at hi
      cases hpl : place i with
      | none => simp [hpl] at hi
      | some os =>
        obtain ⟨off, size⟩ := os
        simp only [hpl] at hi
        cases hcnd : (Nat.beq v.cells.toList.length size && Nat.ble (off + v.cells.toList.length) cells.length)
        · simp only [hcnd, cond_false] at hi; cases hi
        · simp only [hcnd, cond_true] at hi
          simp only [Bool.and_eq_true] at hcnd
          have h1 := Nat.eq_of_beq_eq_true hcnd.1
          have h2 := Nat.le_of_ble_eq_true hcnd.2
          have hr := cells_rel hv hch
          have hl1 : v'.cells.size = size := by have := hr.length; rw [h1] at this; simpa using this.symm
          have hl2 : off + v'.cells.size ≤ cells'.size := by have := hc.length; rw [h1] at h2; simp at this; omega
          have hsp : LRel μ (splice cells off v.cells.toList) ((v'.cells.toList.zipIdx 0).foldl (fun cs (x : Value × Nat) => cs.setIfInBounds (off + x.2) x.1) cells').toList := by
            rw [foldl_set _ _ _ _ (by simpa using hl2)]
            unfold splice
            rw [hr.length]
            exact (hc.take _).append (hr.append (hc.drop _))
          obtain ⟨r', e1, e2⟩ := ih l' _ _ r ht hsp hi
          refine ⟨r', ?_, e2⟩
          simp only [Instr.fill, hpl]
          have hno : ¬ (v'.cells.size ≠ size || off + v'.cells.size > cells'.size) = true := by
            simp [hl1]; omega
          simp only [hno]
          rw [← e1]
          congr 1
          rw [← Array.foldl_toList]
          simp [Array.toList_zipIdx]

theorem build_sim {t : TypeId} {parts parts' : List (Nat × Value)} {v : Value} (hp : PRel μ parts parts') (hi : ibuild P t parts = some v) (ps : Array (Nat × Value)) (hps : ps.toList = parts') :
    ∃ v', (Instr.build t ps).run P W = .ok v' W ∧ VRel μ v v' := by
  unfold ibuild at hi
  split at hi
  · rename_i z _ e hz hu
    obtain ⟨i, zz, h1, h2, h3, h4⟩ := zeroL_eq hz
    split at hi
    · rename_i n hn
      obtain ⟨ie, h5, rfl⟩ := sizeT_eq hn
      cases hf : ifill (fun i => some (i * ie.size, ie.size)) z parts with
      | none => simp [hf] at hi
      | some r =>
        simp only [hf, Option.map_some, Option.some.injEq] at hi
        subst hi
        obtain ⟨r', e1, e2⟩ := fill_sim parts parts' z zz.cells r hp (by rw [← h4]; exact flat_cells h3) hf
        refine ⟨.agg r', run_build W t ps r' ?_, VRel.agg_iff.2 ⟨_, rfl, e2⟩⟩
        rw [hps]
        simp [Program.built, h1, hu, h2, h5, e1]
    · cases hi
  · rename_i z fields hz hu
    obtain ⟨i, zz, h1, h2, h3, h4⟩ := zeroL_eq hz
    split at hi
    · rename_i pl hpl
      cases hf : ifill (fun i => pl[i]?) z parts with
      | none => simp [hf] at hi
      | some r =>
        simp only [hf, Option.map_some, Option.some.injEq] at hi
        subst hi
        obtain ⟨r', e1, e2⟩ := fill_sim parts parts' z zz.cells r hp (by rw [← h4]; exact flat_cells h3) hf
        refine ⟨.agg r', run_build W t ps r' ?_, VRel.agg_iff.2 ⟨_, rfl, e2⟩⟩
        rw [hps]
        unfold structPlaces at hpl
        simp [Program.built, h1, hu, h2, hpl, e1]
    · cases hi
  · cases hi

theorem zeros_sim {z : Value} {l : List Value} (hf : flat z = true) (hl : z.cells.toList = l) (n : Nat) :
    LRel μ (zerosL l n) (((Array.range n).map (z.cells[· % z.cells.size]!)).toList) := by
  subst hl
  have hz : LRel μ z.cells.toList z.cells.toList := flat_cells hf
  have hd : VRel μ (default : Value) default := .bool _
  simp only [zerosL, Array.toList_map, Array.toList_range]
  refine LRel.map _ _ _ fun i _ => ?_
  have : z.cells[i % z.cells.size]! = z.cells.toList.getD (i % z.cells.toList.length) default := by
    rw [getElem!_def, List.getD, Array.getElem?_toList]
    simp only [Array.length_toList]
    cases z.cells[i % z.cells.size]? <;> rfl
  rw [this]
  rcases Nat.lt_or_ge (i % z.cells.toList.length) z.cells.toList.length with hlt | hge
  · simp only [List.getD, List.getElem?_eq_getElem hlt, Option.getD_some]; exact hz.idx _ hlt hlt
  · simp only [List.getD, List.getElem?_eq_none hge, Option.getD_none]; exact hd

theorem orel_cells {l : List Value} {c : Array Value} (k e : Nat) (t : TypeId) (h : LRel μ l c.toList) : ORel μ ⟨k, 0, c.size, e⟩ (.cells l e false) (.cells c t) := by
  refine .cells ⟨k, 0, c.size, e⟩ l e false c t 0 0 rfl ?_ (by simp) (fun _ i _ => by omega)
  have := h.length
  rw [List.drop_zero, List.take_of_length_le (by omega)]
  exact h

theorem ptr_new (T : Tgt) (b : Nat) (hd : T.d = 0) : VRel (μ.ext b T) (.pointer (some ⟨b, 0, none⟩)) (.pointer (some ⟨T.c, 0, none⟩)) := by
  have := VRel.ptr (μ := μ.ext b T) b 0 T (Inj.ext_same _ _ _)
  rw [hd] at this
  exact this
theorem slice_new (T : Tgt) (b : Nat) (hd : T.d = 0) (n c c' : Nat) (hc : CapRel T 0 n c c') : VRel (μ.ext b T) (.slice (some ⟨b, 0, none⟩) n c) (.slice (some ⟨T.c, 0, none⟩) n c') :=
  .slice b 0 n c c' 0 T (Inj.ext_same _ _ _) hc (.inl (by omega))

theorem buildSlice_sim (h : HRel base W0 μ H W) {t : TypeId} {len : Nat} {parts parts' : List (Nat × Value)} {v : Value} {H' : IHeap} (hp : PRel μ parts parts') (hi : ibuildSlice P t len parts H = some (v, H')) (ps : Array (Nat × Value)) (hps : ps.toList = parts') (hcap : len < capU) :
    ∃ μ' v' W', (Instr.buildSlice t len ps).run P W = .ok v' W' ∧ HRel base W0 μ' H' W' ∧ VRel μ' v v' ∧ Evolve μ H μ' H' := by
  unfold ibuildSlice at hi
  split at hi
  · rename_i e hu
    split at hi
    · rename_i n z hn hz
      obtain ⟨ie, h5, rfl⟩ := sizeT_eq hn
      obtain ⟨i, zz, h1, h2, h3, h4⟩ := zeroL_eq hz
      rw [h5] at h1; cases h1
      cases hz0 : Nat.beq (len * ie.size) 0
      case true =>
        simp only [hz0, cond_true] at hi
        split at hi
        · cases hi
          cases hp
          have hz0 := Nat.eq_of_beq_eq_true hz0
          have hrun : (Instr.buildSlice t len ps).run P W = .ok (.slice (some ⟨W.heap.size, 0, none⟩) len len) (W.alloc (.cells #[] e)) := by
            have hr0 : Array.range 0 = #[] := rfl
            simp [Instr.buildSlice, run_underlying hu, sizeOf, typeInfo, h5, hz0, newRow, hps, hr0, Instr.fill]
          obtain ⟨g1, g2⟩ := h.alloc rfl (orel_cells (l := []) (c := #[]) W.heap.size ie.size e .nil)
          exact ⟨_, _, _, hrun, g1, slice_new _ _ rfl len len len (.inl ⟨hcap, rfl⟩), g2⟩
        · cases hi
      simp only [hz0, cond_false] at hi
      cases hcnd : (Nat.ble (len * ie.size) 16777216)
      · simp only [hcnd, cond_false] at hi; cases hi
      · simp only [hcnd, cond_true] at hi
        have c1 := Nat.le_of_ble_eq_true hcnd
        have c2 : ¬ len * ie.size = 0 := by intro e; rw [e] at hz0; exact absurd hz0 (by decide)
        cases hf : ifill (fun i => some (i * ie.size, ie.size)) (zerosL z (len * ie.size)) parts with
        | none => simp [hf] at hi
        | some r =>
          simp only [hf, Option.map_some, Option.some.injEq, Prod.mk.injEq] at hi
          obtain ⟨rfl, rfl⟩ := hi
          obtain ⟨r', e1, e2⟩ := fill_sim parts parts' _ _ r hp (zeros_sim h3 h4 (len * ie.size)) hf
          have hrun : (Instr.buildSlice t len ps).run P W = .ok (.slice (some ⟨W.heap.size, 0, none⟩) len len) (W.alloc (.cells r' e)) := by
            rw [← hps] at e1
            have hsmall : ¬ len * ie.size > 2 ^ 24 := by omega
            simp [Instr.buildSlice, run_underlying hu, sizeOf, typeInfo, zeroValue, h5, h2, hsmall, c2, e1, newRow]
          obtain ⟨g1, g2⟩ := h.alloc rfl (orel_cells W.heap.size ie.size e e2)
          exact ⟨_, _, _, hrun, g1, slice_new _ _ rfl len len len (.inl ⟨hcap, rfl⟩), g2⟩
    · cases hi
  · cases hi

end
end Go.Ideal

namespace Go.Ideal
section
variable {P : Program} {base : Env} {W0 : World} {μ : Inj} {H : IHeap} {W : World}

inductive OVRel (μ : Inj) : Option Value → Option Value → Prop where
  | none : OVRel μ none none
  | some {v v' : Value} (h : VRel μ v v') : OVRel μ (some v) (some v')

theorem bnd_eq {x : Value} {y k : Nat} (h : bnd x y = some k) : ∃ kd, x = .int kd (Int.ofNat k) ∧ k ≤ y := by
  unfold bnd at h
  split at h
  · rename_i kd n
    cases hb : Nat.ble n y <;> simp [hb] at h
    subst h; exact ⟨kd, rfl, Nat.le_of_ble_eq_true hb⟩
  · cases h
theorem sliceBound_sim {x x' : Value} {y y' k : Nat} (hx : VRel μ x x') (h : bnd x y = some k) (hy : y ≤ y') (code : BoundsCode) : (Instr.sliceBound x' y' code).run P W = .ok k W := by
  obtain ⟨kd, rfl, hk⟩ := bnd_eq h
  cases hx
  have : (0 : Int) ≤ Int.ofNat k ∧ Int.ofNat k ≤ (y' : Int) := ⟨by simp, by have := Int.ofNat_le.2 (Nat.le_trans hk hy); simpa using this⟩
  simp only [Instr.sliceBound, asIntOf, Sem.run_bind, Sem.run_pure, Result.andThen_ok, if_pos this]
  simp

theorem bounds_sim {len cap cap' l h m : Nat} {lo lo' hi hi' mx mx' : Option Value} (isS : Bool) (hlo : OVRel μ lo lo') (hhi : OVRel μ hi hi') (hmx : OVRel μ mx mx') (hb : ibounds len cap lo hi mx = some (l, h, m)) (hc : cap ≤ cap') :
    ∃ m', (Instr.sliceBounds isS len cap' lo' hi' mx').run P W = .ok (l, h, m') W ∧ l ≤ h ∧ ((mx.isSome = true ∧ m' = m ∧ m ≤ cap) ∨ (mx = none ∧ m' = cap' ∧ m = cap)) ∧ (h ≤ m ∨ (hi = none ∧ h = len)) := by
  unfold ibounds at hb
  cases hmx with
  | none =>
    simp only [Option.bind_some] at hb
    cases hhi with
    | none =>
      simp only [Option.bind_some] at hb
      cases hlo with
      | none =>
        simp only [Option.bind_some, Option.some.injEq, Prod.mk.injEq] at hb
        obtain ⟨rfl, rfl, rfl⟩ := hb
        exact ⟨cap', by simp [Instr.sliceBounds], Nat.zero_le _, .inr ⟨rfl, rfl, rfl⟩, .inr ⟨rfl, rfl⟩⟩
      | some hv =>
        rename_i v v'
        cases hbd : bnd v len with
        | none => simp [hbd] at hb
        | some k =>
          simp only [hbd, Option.bind_some, Option.some.injEq, Prod.mk.injEq] at hb
          obtain ⟨rfl, rfl, rfl⟩ := hb
          have := bnd_eq hbd
          refine ⟨cap', ?_, by obtain ⟨_, _, h⟩ := this; exact h, .inr ⟨rfl, rfl, rfl⟩, .inr ⟨rfl, rfl⟩⟩
          simp [Instr.sliceBounds, sliceBound_sim hv hbd (Nat.le_refl _)]
    | some hw =>
      rename_i u u'
      simp only at hb
      cases hbu : bnd u cap with
      | none => simp [hbu] at hb
      | some k1 =>
        have hk1 : k1 ≤ cap := by obtain ⟨_, _, h⟩ := bnd_eq hbu; exact h
        simp only [hbu, Option.bind_some] at hb
        cases hlo with
        | none =>
          simp only [Option.bind_some, Option.some.injEq, Prod.mk.injEq] at hb
          obtain ⟨rfl, rfl, rfl⟩ := hb
          refine ⟨cap', ?_, Nat.zero_le _, .inr ⟨rfl, rfl, rfl⟩, .inl hk1⟩
          simp [Instr.sliceBounds, sliceBound_sim hw hbu hc]
        | some hv =>
          rename_i v v'
          cases hbd : bnd v k1 with
          | none => simp [hbd] at hb
          | some k =>
            simp only [hbd, Option.bind_some, Option.some.injEq, Prod.mk.injEq] at hb
            obtain ⟨rfl, rfl, rfl⟩ := hb
            have := bnd_eq hbd
            refine ⟨cap', ?_, by obtain ⟨_, _, h⟩ := this; exact h, .inr ⟨rfl, rfl, rfl⟩, .inl hk1⟩
            simp [Instr.sliceBounds, sliceBound_sim hw hbu hc, sliceBound_sim hv hbd (Nat.le_refl _)]
  | some hx =>
    rename_i x x'
    cases hbx : bnd x cap with
    | none => simp [hbx] at hb
    | some k2 =>
      have hk2 : k2 ≤ cap := by obtain ⟨_, _, h⟩ := bnd_eq hbx; exact h
      simp only [hbx, Option.bind_some] at hb
      cases hhi with
      | none => simp at hb
      | some hw =>
        rename_i u u'
        simp only at hb
        cases hbu : bnd u k2 with
        | none => simp [hbu] at hb
        | some k1 =>
          have hk1 : k1 ≤ k2 := by obtain ⟨_, _, h⟩ := bnd_eq hbu; exact h
          simp only [hbu, Option.bind_some] at hb
          cases hlo with
          | none =>
            simp only [Option.bind_some, Option.some.injEq, Prod.mk.injEq] at hb
            obtain ⟨rfl, rfl, rfl⟩ := hb
            refine ⟨k2, ?_, Nat.zero_le _, .inl ⟨rfl, rfl, hk2⟩, .inl hk1⟩
            simp [Instr.sliceBounds, sliceBound_sim hx hbx hc, sliceBound_sim hw hbu (Nat.le_refl _)]
          | some hv =>
            rename_i v v'
            cases hbd : bnd v k1 with
            | none => simp [hbd] at hb
            | some k =>
              simp only [hbd, Option.bind_some, Option.some.injEq, Prod.mk.injEq] at hb
              obtain ⟨rfl, rfl, rfl⟩ := hb
              have := bnd_eq hbd
              refine ⟨k2, ?_, by obtain ⟨_, _, h⟩ := this; exact h, .inl ⟨rfl, rfl, hk2⟩, .inl hk1⟩
              simp [Instr.sliceBounds, sliceBound_sim hx hbx hc, sliceBound_sim hw hbu (Nat.le_refl _), sliceBound_sim hv hbd (Nat.le_refl _)]

def isliceS (sz e b off len cap : Nat) (low high max : Option Value) : Option Value :=
  bif Nat.blt cap capU then
    match ibounds len cap low high max with
    | some (l, h, m) => some (.slice (some ⟨b, bif Nat.beq m l then off else off + l * sz, none⟩) (h - l) (m - l))
    | none => none
  else
    match max, ibounds len (cap - capU) low high max with
    | some _, some (l, h, m) => bif Nat.blt m capU then some (.slice (some ⟨b, bif Nat.beq m l then off else off + l * sz, none⟩) (h - l) (m - l)) else none
    | none, some (l, h, _) => bif Nat.ble l (cap - capU) && Nat.beq sz e then some (.slice (some ⟨b, off + l * sz, none⟩) (h - l) (capU + (cap - capU - l))) else none
    | _, none => none

noncomputable def elemAt (H : IHeap) (b : Nat) : Nat :=
  match H.get b with
  | some (.cells _ e _) => e
  | _ => 0

noncomputable def islice (P : Program) (t : TypeId) (x : Value) (low high max : Option Value) (H : IHeap) : Option Value :=
  match P.underlying t, x with
  | some (.array n e), .pointer (some ⟨b, off, none⟩) =>
    match sizeT P e with
    | some sz => bif Nat.blt n capU then isliceS sz 0 b off n n low high max else none
    | none => none
  | some .string, .string s =>
    match max, ibounds s.size s.size low high none with
    | none, some (l, h, _) => some (.string (s.extract l h))
    | _, _ => none
  | some (.slice e), .slice none len cap =>
    match sizeT P e, ibounds len cap low high max with
    | some _, some (l, h, m) => some (.slice none (h - l) (m - l))
    | _, _ => none
  | some (.slice e), .slice (some ⟨b, off, none⟩) len cap =>
    match sizeT P e with
    | some sz => bif Nat.blt cap capU then isliceS sz 0 b off len cap low high max else
      match H.get b with
      | some (.cells _ e _) => isliceS sz e b off len cap low high max
      | _ => none
    | none => none
  | _, _ => none

theorem add_eq (c o n : Nat) : (⟨c, o, none⟩ : Addr).add n = ⟨c, o + n, none⟩ := by
  unfold Addr.add; split <;> simp_all

theorem isliceS_sim {sz e b off o' len cap cap' : Nat} {T : Tgt} {lo lo' hi hi' mx mx' : Option Value} {v : Value} (hlo : OVRel μ lo lo') (hhi : OVRel μ hi hi') (hmx : OVRel μ mx mx') (hm : μ b = some T) (hc : CapRel T off len cap cap') (ho : o' = T.d + off ∨ (len = 0 ∧ cap' = 0))
    (isS : Bool) (hte : cap < capU ∨ T.e = e) (hi0 : isliceS sz e b off len cap lo hi mx = some v) :
    ∃ l h m', (Instr.sliceBounds isS len cap' lo' hi' mx').run P W = .ok (l, h, m') W ∧ VRel μ v (.slice (some (if m' = l then (⟨T.c, o', none⟩ : Addr) else (⟨T.c, o', none⟩ : Addr).add (l * sz))) (h - l) (m' - l)) := by
  unfold isliceS at hi0
  rcases hc with ⟨hcx, rfl⟩ | ⟨hcu, hlb, hlen, hroom⟩
  · have : Nat.blt cap' capU = true := Nat.ble_eq_true_of_le hcx
    simp only [this, cond_true] at hi0
    cases hb : ibounds len cap' lo hi mx with
    | none => simp [hb] at hi0
    | some x =>
      obtain ⟨l, h, m⟩ := x
      simp only [hb, Option.some.injEq] at hi0
      subst hi0
      obtain ⟨m', hrun, hlh, hmm, hhm⟩ := bounds_sim (P := P) (W := W) isS hlo hhi hmx hb (Nat.le_refl _)
      have hm' : m' = m := by rcases hmm with ⟨_, h, _⟩ | ⟨_, h1, h2⟩ <;> omega
      have hmle : m ≤ cap' := by rcases hmm with ⟨_, _, h⟩ | ⟨_, h1, h2⟩ <;> omega
      subst hm'
      refine ⟨l, h, m', hrun, ?_⟩
      by_cases e : m' = l
      · have hbq : Nat.beq m' l = true := by rw [e]; exact Nat.beq_refl _
        simp only [hbq, cond_true, if_pos e]
        refine .slice b off _ _ _ o' T hm (.inl ⟨by omega, rfl⟩) ?_
        rcases ho with ho | ⟨h1, h2⟩
        · exact .inl ho
        · refine .inr ⟨?_, by omega⟩
          rcases hhm with hh | ⟨_, hh⟩ <;> omega
      · have hbq : Nat.beq m' l = false := by
          cases hq : Nat.beq m' l
          · rfl
          · exact absurd (Nat.eq_of_beq_eq_true hq) e
        simp only [hbq, cond_false, if_neg e, add_eq]
        refine .slice b _ _ _ _ _ T hm (.inl ⟨by omega, rfl⟩) ?_
        rcases ho with ho | ⟨h1, h2⟩
        · exact .inl (by omega)
        · exfalso
          rcases hhm with hh | ⟨_, hh⟩ <;> omega
  · have : Nat.blt cap capU = false := by
      cases hq : Nat.blt cap capU
      · rfl
      · have : cap < capU := Nat.le_of_ble_eq_true hq
        omega
    simp only [this, cond_false] at hi0
    cases hb : ibounds len (cap - capU) lo hi mx with
    | none => cases mx <;> simp [hb] at hi0
    | some x =>
      obtain ⟨l, h, m⟩ := x
      obtain ⟨m', hrun, hlh, hmm, hhm⟩ := bounds_sim (P := P) (W := W) isS hlo hhi hmx hb hlb
      refine ⟨l, h, m', hrun, ?_⟩
      cases hmx with
      | none =>
        simp only [hb] at hi0
        have hm' : m' = cap' ∧ m = cap - capU := by
          rcases hmm with ⟨h, _⟩ | ⟨_, h1, h2⟩
          · cases h
          · exact ⟨h1, h2⟩
        obtain ⟨hm1, hm2⟩ := hm'
        subst hm1; subst hm2
        cases hle : (Nat.ble l (cap - capU) && Nat.beq sz e)
        · simp [hle] at hi0
        · simp only [hle, cond_true, Option.some.injEq] at hi0
          subst hi0
          simp only [Bool.and_eq_true] at hle
          have hll := Nat.le_of_ble_eq_true hle.1
          have hse := Nat.eq_of_beq_eq_true hle.2
          have hte' : T.e = sz := by rcases hte with hh | hh <;> omega
          have hroom' : ∀ k, k ≤ m' → off + l * sz + (m' - l) * T.e ≤ T.r ∨ m' < l := by
            intro k _
            rcases Nat.lt_or_ge m' l with hh | hh
            · exact .inr hh
            · refine .inl ?_
              rw [hte'] at hroom ⊢
              have : l * sz + (m' - l) * sz = m' * sz := by rw [← Nat.add_mul]; congr 1; omega
              omega
          have hhl : h ≤ m' := by rcases hhm with hh | ⟨_, hh⟩ <;> omega
          by_cases e : m' = l
          · simp only [if_pos e]
            refine .slice b _ _ _ _ o' T hm (.inr ⟨by omega, by omega, by omega, by have := hroom' 0 (by omega); omega, by omega⟩) (.inr ⟨by omega, by omega⟩)
          · simp only [if_neg e, add_eq]
            refine .slice b _ _ _ _ _ T hm (.inr ⟨by omega, by omega, by omega, by have := hroom' 0 (by omega); omega, by omega⟩) ?_
            rcases ho with ho | ⟨h1, h2⟩
            · exact .inl (by omega)
            · exfalso; omega
      | some hx =>
        simp only [hb] at hi0
        cases hlt : Nat.blt m capU
        · simp [hlt] at hi0
        simp only [hlt, cond_true, Option.some.injEq] at hi0
        subst hi0
        have hltm : m < capU := Nat.le_of_ble_eq_true hlt
        have hm' : m' = m ∧ m ≤ cap - capU := by
          rcases hmm with ⟨_, h1, h2⟩ | ⟨h, _⟩
          · exact ⟨h1, h2⟩
          · cases h
        obtain ⟨hm1, hml⟩ := hm'
        subst hm1
        by_cases e : m' = l
        · have hbq : Nat.beq m' l = true := by rw [e]; exact Nat.beq_refl _
          simp only [hbq, cond_true, if_pos e]
          refine .slice b off _ _ _ o' T hm (.inl ⟨by omega, rfl⟩) ?_
          rcases ho with ho | ⟨h1, h2⟩
          · exact .inl ho
          · refine .inr ⟨?_, by omega⟩
            rcases hhm with hh | ⟨_, hh⟩ <;> omega
        · have hbq : Nat.beq m' l = false := by
            cases hq : Nat.beq m' l
            · rfl
            · exact absurd (Nat.eq_of_beq_eq_true hq) e
          simp only [hbq, cond_false, if_neg e, add_eq]
          refine .slice b _ _ _ _ _ T hm (.inl ⟨by omega, rfl⟩) ?_
          rcases ho with ho | ⟨h1, h2⟩
          · exact .inl (by omega)
          · exfalso
            rcases hhm with hh | ⟨_, hh⟩ <;> omega

end
end Go.Ideal

namespace Go.Ideal
section
variable {P : Program} {base : Env} {W0 : World} {μ : Inj} {H : IHeap} {W : World}

theorem slice_sim (h : HRel base W0 μ H W) {t : TypeId} {x x' v : Value} {lo lo' hi hi' mx mx' : Option Value} (hx : VRel μ x x') (hlo : OVRel μ lo lo') (hhi : OVRel μ hi hi') (hmx : OVRel μ mx mx') (hi0 : islice P t x lo hi mx H = some v) :
    ∃ v', (Instr.sliceAt t x' lo' hi' mx').run P W = .ok v' W ∧ VRel μ v v' := by
  unfold islice at hi0
  split at hi0
  · rename_i n e b off hu
    cases hx with
    | ptr _ _ T hm =>
      split at hi0
      · rename_i sz hsz
        cases hn : Nat.blt n capU
        · simp [hn] at hi0
        · simp only [hn, cond_true] at hi0
          have hn' : n < capU := Nat.le_of_ble_eq_true hn
          obtain ⟨l, hh, m', hrun, hv⟩ := isliceS_sim (P := P) (W := W) (o' := T.d + off) (cap' := n) hlo hhi hmx hm (.inl ⟨hn', rfl⟩) (.inl rfl) false (.inl hn') hi0
          refine ⟨_, ?_, hv⟩
          simp [Instr.sliceAt, run_underlying hu, Instr.sureAddr, hrun, run_sizeOf' hsz]
      · cases hi0
  · rename_i s hu
    cases hx
    split at hi0
    · rename_i l hh m hb
      cases hi0
      cases hmx
      obtain ⟨m', hrun, _, _, _⟩ := bounds_sim (P := P) (W := W) false hlo hhi .none hb (Nat.le_refl _)
      refine ⟨_, ?_, .string _⟩
      simp [Instr.sliceAt, Instr.slice, run_underlying hu, hrun]
    · cases hi0
  · rename_i e len cap hu
    cases hx
    split at hi0
    · rename_i sz l hh m hsz hb
      cases hi0
      obtain ⟨m', hrun, _, hmm, _⟩ := bounds_sim (P := P) (W := W) true hlo hhi hmx hb (Nat.le_refl _)
      have : m' = m := by rcases hmm with ⟨_, h, _⟩ | ⟨_, h1, h2⟩ <;> omega
      subst this
      refine ⟨_, ?_, .nilslice _ _⟩
      simp [Instr.sliceAt, Instr.slice, run_underlying hu, hrun, run_sizeOf' hsz]
    · cases hi0
  · rename_i e b off len cap hu
    cases hx with
    | slice _ _ _ _ cap' o' T hm hc ho =>
      split at hi0
      · rename_i sz hsz
        have fin : ∀ e', (cap < capU ∨ T.e = e') → isliceS sz e' b off len cap lo hi mx = some v → ∃ v', (Instr.sliceAt t (.slice (some ⟨T.c, o', none⟩) len cap') lo' hi' mx').run P W = .ok v' W ∧ VRel μ v v' := by
          intro e' he' hs
          obtain ⟨l, hh, m', hrun, hv⟩ := isliceS_sim (P := P) (W := W) (o' := o') (cap' := cap') hlo hhi hmx hm hc ho true he' hs
          refine ⟨_, ?_, hv⟩
          simp only [Instr.sliceAt, Instr.slice, run_underlying hu, hrun, run_sizeOf' hsz, Sem.run_bind, Result.andThen_ok, Sem.run_pure]
          by_cases e1 : m' = l <;> simp [e1]
        cases hn : Nat.blt cap capU
        · simp only [hn, cond_false] at hi0
          split at hi0
          · rename_i cs ee ro hb
            refine fin ee (.inr ?_) hi0
            obtain ⟨o1, _, hr⟩ := h.obj b _ hb T hm
            cases hr with
            | cells _ _ _ a t lo hi he hc hr hf => exact he.symm
          · cases hi0
        · simp only [hn, cond_true] at hi0
          exact fin 0 (.inl (Nat.le_of_ble_eq_true hn)) hi0
      · cases hi0
  · cases hi0

noncomputable def imakeSlice (P : Program) (t : TypeId) (len cap : Value) (H : IHeap) : Option (Value × IHeap) :=
  match P.underlying t, len, cap with
  | some (.slice e), .int _ (.ofNat l), .int _ (.ofNat c) =>
    match P.info? e, zeroL P e with
    | some i, some z =>
      bif Nat.ble l c && Nat.ble (i.bytes * c) 281474976710656 && Nat.blt c 9223372036854775808 then
        some (.slice (some ⟨H.next, 0, none⟩) l c, H.alloc (.cells (zerosL z (c * i.size)) i.size false))
      else none
    | _, _ => none
  | _, _, _ => none

theorem wrap_i64 {n : Nat} (h : n < 9223372036854775808) : IntKind.i64.wrap (Int.ofNat n) = Int.ofNat n := by
  have h1 : (Int.ofNat n) = (n : Int) := rfl
  rw [h1]
  simp only [IntKind.wrap]
  simp [IntKind.bits, IntKind.signed]
  omega

theorem capU_big : 9223372036854775808 < capU := by unfold capU; decide

theorem makeSlice_run {t e : TypeId} {l c : Nat} {k1 k2 : IntKind} {i : TypeInfo} {z : List Value} (hu : P.underlying t = some (.slice e)) (hie : P.info? e = some i) (hz : zeroL P e = some z)
    (hcnd : (Nat.ble l c && Nat.ble (i.bytes * c) 281474976710656 && Nat.blt c 9223372036854775808) = true) :
    ∃ o' T, (Instr.makeSlice t (.int k1 (Int.ofNat l)) (.int k2 (Int.ofNat c))).run P W = .ok (.slice (some ⟨W.heap.size, 0, none⟩) l c) (W.alloc o') ∧ (T.c = W.heap.size ∧ T.d = 0) ∧ ORel μ T (.cells (zerosL z (c * i.size)) i.size false) o' := by
  obtain ⟨i2, zz, h1, h2, h3, h4⟩ := zeroL_eq hz
  rw [hie] at h1; cases h1
  simp only [Bool.and_eq_true] at hcnd
  have c1 := Nat.le_of_ble_eq_true hcnd.1.1
  have c2 := Nat.le_of_ble_eq_true hcnd.1.2
  have c3 : c < 9223372036854775808 := Nat.le_of_ble_eq_true hcnd.2
  have hz2 := zeros_sim (μ := μ) h3 h4 (c * i.size)
  have w1 := wrap_i64 (n := l) (by omega)
  have w2 := wrap_i64 c3
  refine ⟨.cells ((Array.range (c * i.size)).map (zz.cells[· % zz.cells.size]!)) e, _, ?_, ⟨rfl, rfl⟩, orel_cells W.heap.size i.size e hz2⟩
  have d1 : ¬ ((Int.ofNat c < 0 || ↑i.bytes * Int.ofNat c > (2 ^ 48 : Int)) = true) := by
    have hb : (i.bytes : Int) * (c : Int) ≤ 281474976710656 := by
      have := Int.ofNat_le.2 c2
      rw [Int.natCast_mul] at this
      exact this
    have hp : (2 ^ 48 : Int) = 281474976710656 := rfl
    intro hcon
    rw [Bool.or_eq_true] at hcon
    rcases hcon with hcon | hcon
    · have := of_decide_eq_true hcon
      have e : Int.ofNat c = (c : Int) := rfl
      omega
    · have hq := of_decide_eq_true hcon
      rw [hp] at hq
      have hq' : (i.bytes : Int) * (c : Int) > 281474976710656 := hq
      omega
  have d2 : ¬ (Int.ofNat l < 0) := by simp
  have d3 : ¬ (Int.ofNat l > Int.ofNat c) := by simp; omega
  simp only [Instr.makeSlice, run_underlying hu, Sem.run_bind, Result.andThen_ok, asInt, asIntOf, Sem.run_pure, typeInfo, run_program, hie, w1, w2, sizeOf]
  have d4 : ((Int.ofNat c < 0 || ↑i.bytes * Int.ofNat c > (2 ^ 48 : Int)) || decide (Int.ofNat l < 0) || decide (Int.ofNat l > Int.ofNat c)) = false := by
    rw [Bool.or_eq_false_iff, Bool.or_eq_false_iff]
    exact ⟨⟨Bool.eq_false_iff.2 d1, decide_eq_false d2⟩, decide_eq_false d3⟩
  simp only [d4]
  by_cases hn : c * i.size = 0
  · have hr0 : Array.range 0 = #[] := rfl
    simp [hn, newRow, hie, hr0]
  · simp [hn, newRow, zeroValue, typeInfo, hie, h2]

theorem makeSlice_sim (h : HRel base W0 μ H W) {t : TypeId} {len len' cap cap' v : Value} {H' : IHeap} (hl : VRel μ len len') (hc : VRel μ cap cap') (hi : imakeSlice P t len cap H = some (v, H')) :
    ∃ μ' v' W', (Instr.makeSlice t len' cap').run P W = .ok v' W' ∧ HRel base W0 μ' H' W' ∧ VRel μ' v v' ∧ Evolve μ H μ' H' := by
  unfold imakeSlice at hi
  split at hi
  · rename_i e k1 l k2 c hu
    cases hl; cases hc
    split at hi
    · rename_i i z hie hz
      cases hcnd : (Nat.ble l c && Nat.ble (i.bytes * c) 281474976710656 && Nat.blt c 9223372036854775808)
      · simp only [hcnd, cond_false] at hi; cases hi
      · simp only [hcnd, cond_true, Option.some.injEq, Prod.mk.injEq] at hi
        obtain ⟨rfl, rfl⟩ := hi
        obtain ⟨o', T, hrun, hT, ho⟩ := makeSlice_run (P := P) (μ := μ) (W := W) (k1 := k1) (k2 := k2) hu hie hz hcnd
        obtain ⟨g1, g2⟩ := h.alloc hT.1 ho
        have := capU_big
        simp only [Bool.and_eq_true] at hcnd
        have c3 : c < 9223372036854775808 := Nat.le_of_ble_eq_true hcnd.2
        have hs := slice_new (μ := μ) T H.next hT.2 l c c (.inl ⟨by omega, rfl⟩)
        rw [hT.1] at hs
        exact ⟨_, _, _, hrun, g1, hs, g2⟩
    · cases hi
  · cases hi

end
end Go.Ideal

namespace Go.Ideal
section
variable {P : Program} {base : Env} {W0 : World} {μ : Inj} {H : IHeap} {W : World}

noncomputable def isrc (sz : Nat) (x : Value) (H : IHeap) : Option (Nat × List Value) :=
  match x with
  | .slice none n _ => bif Nat.beq n 0 then some (0, []) else none
  | .slice (some ⟨b, off, none⟩) n _ =>
    bif Nat.beq (n * sz) 0 then some (n, []) else
    match H.get b with
    | some (.cells cs _ _) => let l := (cs.drop off).take (n * sz); bif Nat.beq l.length (n * sz) then some (n, l) else none
    | _ => none
  | .string s => bif Nat.beq sz 1 then some (s.size, s.data.toList.map fun b => .int .u8 b.toNat) else none
  | _ => none

theorem src_sim (h : HRel base W0 μ H W) {sz n k : Nat} {x x' : Value} {l : List Value} (hx : VRel μ x x') (hi : isrc sz x H = some (n, l)) (hk : k ≤ n) :
    (Builtin.lenOf x').run P W = .ok n W ∧ l.length = n * sz ∧ ∃ l', LRel μ (l.take (k * sz)) l' ∧ (Builtin.firstCells sz k x').run P W = .ok l'.toArray W := by
  unfold isrc at hi
  split at hi
  · rename_i m c
    cases hx
    cases hb : Nat.beq m 0
    · simp [hb] at hi
    · simp only [hb, cond_true, Option.some.injEq, Prod.mk.injEq] at hi
      obtain ⟨rfl, rfl⟩ := hi
      have := Nat.eq_of_beq_eq_true hb
      subst this
      exact ⟨rfl, by simp, [], by simpa using LRel.nil, rfl⟩
  · rename_i b off m c
    cases hx with
    | slice _ _ _ _ cap' o' T hm hc ho =>
      cases hb : Nat.beq (m * sz) 0
      · simp only [hb, cond_false] at hi
        have hnz : m * sz ≠ 0 := by intro e; rw [e] at hb; cases hb
        split at hi
        · rename_i cs e ro hget
          cases hl : Nat.beq ((cs.drop off).take (m * sz)).length (m * sz)
          · rw [hl] at hi; cases hi
          · rw [hl] at hi
            simp only [cond_true, Option.some.injEq, Prod.mk.injEq] at hi
            obtain ⟨rfl, rfl⟩ := hi
            have hlen := Nat.eq_of_beq_eq_true hl
            have hoff : o' = T.d + off := by
              rcases ho with ho | ⟨h1, _⟩
              · exact ho
              · subst h1; simp at hnz
            subst hoff
            have hkk : k * sz ≤ m * sz := Nat.mul_le_mul_right sz hk
            have hlk : (((cs.drop off).take (m * sz)).take (k * sz)).length = k * sz := by rw [List.length_take, hlen]; omega
            obtain ⟨l', r1, r2, _⟩ := h.row hget hm (off := off) (l := ((cs.drop off).take (m * sz)).take (k * sz)) (by rw [hlk, List.take_take, Nat.min_eq_left hkk]) P
            rw [hlk] at r2
            exact ⟨rfl, hlen, l', r1, r2⟩
        · cases hi
      · simp only [hb, cond_true, Option.some.injEq, Prod.mk.injEq] at hi
        obtain ⟨rfl, rfl⟩ := hi
        have hz := Nat.eq_of_beq_eq_true hb
        have hkk : k * sz ≤ m * sz := Nat.mul_le_mul_right sz hk
        have hk0 : k * sz = 0 := by omega
        refine ⟨rfl, by simp [hz], [], by simpa using LRel.nil, ?_⟩
        simp [Builtin.firstCells, hk0, loadCells, loadCellsFrom]
  · rename_i s
    cases hx
    cases hb : Nat.beq sz 1
    · simp [hb] at hi
    · simp only [hb, cond_true, Option.some.injEq, Prod.mk.injEq] at hi
      obtain ⟨rfl, rfl⟩ := hi
      have := Nat.eq_of_beq_eq_true hb
      subst this
      refine ⟨rfl, by rw [List.length_map, Nat.mul_one]; rfl, (s.extract 0 k).data.toList.map fun b => .int .u8 b.toNat, ?_, by
        show Result.ok ((s.extract 0 k).data.map _) W = _
        congr 1
        apply Array.ext'
        rw [Array.toList_map]⟩
      have : (s.extract 0 k).data.toList = s.data.toList.take k := by simp [ByteArray.data_extract]
      rw [Nat.mul_one, ← List.map_take, ← this]
      exact LRel.map _ _ _ fun b _ => .int _ _
  · cases hi

theorem growBy_le (newLen : Nat) : ∀ (k c : Nat), c < newLen → Builtin.growBy newLen k c ≤ newLen + newLen / 4 + 192 := by
  intro k
  induction k with
  | zero => intro c h; simp only [Builtin.growBy]; omega
  | succ k ih =>
    intro c h
    simp only [Builtin.growBy]
    rw [if_neg (by omega)]
    rcases Nat.lt_or_ge (c + (c + 768) / 4) newLen with h1 | h1
    · exact ih _ h1
    · cases k with
      | zero => simp only [Builtin.growBy]; omega
      | succ k => simp only [Builtin.growBy]; rw [if_pos h1]; omega
theorem nextcap_le {need cap : Nat} (h : cap < need) : Builtin.nextslicecap need cap ≤ 2 * need + 192 := by
  unfold Builtin.nextslicecap
  split
  · omega
  · split
    · omega
    · have := growBy_le need 4 cap h; omega

theorem run_append_in {argTypes : Array TypeId} {ty sT xT e : TypeId} {d : TypeDesc} {i : TypeInfo} {bs : Option Addr} {len cap n : Nat} {x : Value} {l : List Value} {w' : World}
    (ht : argTypes.toList = [sT, xT]) (hu : P.underlying sT = some (.slice e)) (hux : P.underlying xT = some d) (hd : d = .string ∨ ∃ q, d = .slice q) (hi : P.info? e = some i) (hn : (Builtin.lenOf x).run P W = .ok n W) (hc : len + n ≤ cap)
    (hf : (Builtin.firstCells i.size n x).run P W = .ok l.toArray W) (hst : ∀ a, bs = some a → (storeCells (a.add (len * i.size)) l).run P W = .ok () w') (hno : bs = none → w' = W) :
    (Builtin.append_ argTypes ty #[.slice bs len cap, x]).run P W = .ok (.slice bs (len + n) cap) w' := by
  obtain rfl : argTypes = #[sT, xT] := by rw [← Array.toList_inj]; simpa using ht
  cases bs with
  | none =>
    obtain rfl := hno rfl
    rcases hd with rfl | ⟨q, rfl⟩ <;> simp [Builtin.append_, run_underlying hu, run_underlying hux, sizeOf, typeInfo, hi, hn, hc, hf]
  | some a =>
    have hst := hst a rfl
    rcases hd with rfl | ⟨q, rfl⟩ <;> simp [Builtin.append_, run_underlying hu, run_underlying hux, sizeOf, typeInfo, hi, hn, hc, hf, hst]

theorem run_append_grow' {argTypes : Array TypeId} {ty sT xT e : TypeId} {d : TypeDesc} {i : TypeInfo} {bs : Option Addr} {len cap n : Nat} {x z : Value} {l lo : List Value}
    (ht : argTypes.toList = [sT, xT]) (hu : P.underlying sT = some (.slice e)) (hux : P.underlying xT = some d) (hd : d = .string ∨ ∃ q, d = .slice q) (hi : P.info? e = some i) (hz : i.zero = some z) (hn : (Builtin.lenOf x).run P W = .ok n W) (hc : ¬ len + n ≤ cap)
    (hb : (2 * (len + n) + 192) * i.bytes ≤ 281474976710656) (hneed : len + n ≤ 4611686018427387904)
    (hf : (Builtin.firstCells i.size n x).run P W.drew = .ok l.toArray W.drew) (hfo : (Builtin.firstCells i.size len (.slice bs len cap)).run P W.drew = .ok lo.toArray W.drew) :
    ∃ newCap, len + n ≤ newCap ∧ newCap ≤ 9223372036854775807 ∧ (Builtin.append_ argTypes ty #[.slice bs len cap, x]).run P W = .ok (.slice (some ⟨W.heap.size, 0, none⟩) (len + n) newCap)
      (W.drew.alloc (.cells (lo.toArray ++ l.toArray ++ Builtin.zeroCells z.cells (newCap - (len + n))) e)) := by
  obtain rfl : argTypes = #[sT, xT] := by rw [← Array.toList_inj]; simpa using ht
  have hnc := nextcap_le (need := len + n) (cap := cap) (by omega)
  have h48 : ¬ (281474976710656 < Builtin.nextslicecap (len + n) cap * i.bytes) := by
    have := Nat.mul_le_mul_right i.bytes hnc
    omega
  have h63 : ¬ (9223372036854775807 < ((len : Int) + (n : Int))) := by omega
  refine ⟨grownCap W (len + n) cap e, by simp [grownCap, Question.cut], by simp only [grownCap, Question.cut]; have := Nat.mod_lt (W.tape W.drawn (.appendCap (len + n) cap e)) (y := 2 ^ 63 - (len + n)) (by omega); omega, ?_⟩
  rcases hd with rfl | ⟨q, rfl⟩ <;>
    (simp [Builtin.append_, run_underlying hu, run_underlying hux, sizeOf, typeInfo, zeroValue, hi, hz, hn, hc, h63, h48, Question.forced, hf, hfo, newRow, grownCap]
     congr 2
     apply Array.ext'
     simp [List.append_assoc])

noncomputable def iappIn (sz len n cap : Nat) (a : Option Addr) (new : List Value) (H : IHeap) : Option (Value × IHeap) :=
  match a with
  | some ⟨b, off, none⟩ =>
    match H.get b with
    | some (.cells cs e false) =>
      bif Nat.ble (off + len * sz + new.length) cs.length then some (.slice a (len + n) cap, H.put b (.cells (splice cs (off + len * sz) new) e false)) else none
    | _ => none
  | _ => none

noncomputable def iappGrow (sz bytes len n : Nat) (a : Value) (new : List Value) (H : IHeap) : Option (Value × IHeap) :=
  match isrc sz a H with
  | some (_, old) =>
    bif Nat.ble ((2 * (len + n) + 192) * bytes) 281474976710656 && Nat.ble (len + n) 4611686018427387904 then
      some (.slice (some ⟨H.next, 0, none⟩) (len + n) (capU + (len + n)), H.alloc (.cells (old ++ new) sz false))
    else none
  | none => none

noncomputable def iappRetire (sz bytes len n : Nat) (s : Value) (new : List Value) (H : IHeap) : Option (Value × IHeap) :=
  match s with
  | .slice (some ⟨b, off, none⟩) _ _ =>
    match H.get b with
    | some (.cells cs e false) =>
      let old := (cs.drop off).take (len * sz)
      bif Nat.beq old.length (len * sz) && Nat.beq e sz && Nat.ble ((2 * (len + n) + 192) * bytes) 281474976710656 && Nat.ble (len + n) 4611686018427387904 then
        some (.slice (some ⟨H.next, 0, none⟩) (len + n) (capU + (len + n)), (H.del b).alloc (.cells (old ++ new) sz false))
      else none
    | _ => none
  | _ => none

noncomputable def iappTo (sz bytes : Nat) (s : Value) (n : Nat) (new : List Value) (H : IHeap) : Option (Value × IHeap) :=
  match s with
  | .slice a len cap =>
    bif Nat.beq n 0 then (bif Nat.ble len cap then some (s, H) else none)
    else bif Nat.blt cap capU then
      bif Nat.ble (len + n) cap then iappIn sz len n cap a new H else iappGrow sz bytes len n s new H
    else bif Nat.ble (len + n) (cap - capU) then iappIn sz len n cap a new H
    else iappRetire sz bytes len n s new H
  | _ => none

def sliceOrString : Option TypeDesc → Bool
  | some .string => true
  | some (.slice _) => true
  | _ => false

def isIntD : Option TypeDesc → Bool
  | some (.int _) => true
  | _ => false
def isrcZ (z : List Value) (bytes : Nat) (x : Value) : Option (Nat × List Value) :=
  match x with
  | .int _ (.ofNat n) => bif Nat.ble (n * bytes) 281474976710656 && Nat.ble n 9223372036854775807 then some (n, zerosL z (n * z.length)) else none
  | _ => none
noncomputable def iappend (P : Program) (argTypes : Array TypeId) (args : List Value) (H : IHeap) : Option (Value × IHeap) :=
  match argTypes.toList, args with
  | [sT, xT], [s, x] =>
    match P.underlying sT with
    | some (.slice e) =>
      match P.info? e, zeroL P e with
      | some i, some z =>
        bif isIntD (P.underlying xT) then
          match isrcZ z i.bytes x with
          | some (n, new) => bif new.all okCell && Nat.beq z.length i.size then iappTo i.size i.bytes s n new H else none
          | none => none
        else
        match isrc i.size x H with
        | some (n, new) =>
          bif sliceOrString (P.underlying xT) && new.all okCell && Nat.beq z.length i.size then iappTo i.size i.bytes s n new H else none
        | none => none
      | _, _ => none
    | _ => none
  | _, _ => none

theorem run_stores_raw (P : Program) (c : Nat) (t : TypeId) (fz : Nat × Nat) : ∀ (l : List Value) (k o : Nat) (a : Array Value) (w : World), w.heap[c]? = some (.cells a t fz) → o + k + l.length ≤ a.size → (∀ i, i < a.size → ¬ (fz.1 ≤ i ∧ i < fz.2)) → (∀ v ∈ l, v.oneCell' = true) →
    ∃ w' a', (storeCells ⟨c, o, none⟩ l k).run P w = .ok () w' ∧ w'.heap[c]? = some (.cells a' t fz) ∧ a'.toList = splice a.toList (o + k) l ∧ w'.heap.size = w.heap.size ∧ (∀ i, i ≠ c → w'.heap[i]? = w.heap[i]?) ∧ w'.output = w.output ∧ w'.os = w.os := by
  intro l
  induction l with
  | nil => intro k o a w hw _ _ _; exact ⟨w, a, rfl, hw, by rw [splice_nil], rfl, fun _ _ => rfl, rfl, rfl⟩
  | cons v l ih =>
    intro k o a w hw hlen hf h1
    simp only [List.length_cons] at hlen
    have hadd : (⟨c, o, none⟩ : Addr).add k = ⟨c, o + k, none⟩ := add_eq c o k
    have hcell : w.cell? ⟨c, o + k, none⟩ = some (a[o + k]'(by omega)) := by
      simp only [World.cell?, hw]
      simp
    have hfz : w.frozen? ⟨c, o + k, none⟩ = false := by
      have := hf (o + k) (by omega)
      simp only [World.frozen?, hw]
      simp only [Bool.and_eq_false_iff, decide_eq_false_iff_not]
      omega
    have hst : (store ((⟨c, o, none⟩ : Addr).add k) v).run P w = .ok () (w.setCell ⟨c, o + k, none⟩ v) := by
      rw [hadd, run_store P w _ v _ (h1 v (by simp))]
      simp [hcell, hfz]
    have hw1 : (w.setCell ⟨c, o + k, none⟩ v).heap[c]? = some (.cells (a.setIfInBounds (o + k) v) t fz) := by
      simp only [World.setCell, Array.getElem?_modify, if_true, hw]
      rfl
    obtain ⟨w', a', r1, r2, r3, r4, r5, r6, r7⟩ := ih (k + 1) o (a.setIfInBounds (o + k) v) (w.setCell ⟨c, o + k, none⟩ v) hw1 (by simp; omega) (by simpa using hf) (fun x hx => h1 x (by simp [hx]))
    refine ⟨w', a', ?_, r2, ?_, ?_, ?_, r6, r7⟩
    · simp only [storeCells, Sem.run_bind, hst, Result.andThen_ok, r1]
    · rw [r3, splice_cons _ _ _ _ (by simp; omega), Array.toList_setIfInBounds]; rfl
    · rw [r4]; simp
    · intro i hi
      rw [r5 i hi]
      simp only [World.setCell, Array.getElem?_modify]
      rw [if_neg (Ne.symm hi)]

theorem sliceOrString_eq {o : Option TypeDesc} (h : sliceOrString o = true) : ∃ d, o = some d ∧ (d = .string ∨ ∃ q, d = .slice q) := by
  unfold sliceOrString at h
  split at h
  · exact ⟨_, rfl, .inl rfl⟩
  · exact ⟨_, rfl, .inr ⟨_, rfl⟩⟩
  · cases h

theorem zeroCells_len (z : Array Value) (n : Nat) : (Builtin.zeroCells z n).size = n * z.size := by simp [Builtin.zeroCells]

structure AppSrc (P : Program) (μ : Inj) (W : World) (argTypes : Array TypeId) (ty e : TypeId) (i : TypeInfo) (zz x' : Value) (n : Nat) (new : List Value) : Prop where
  inR : ∃ new', LRel μ new new' ∧ ∀ (bs : Option Addr) (len cap : Nat) (w' : World), len + n ≤ cap → (∀ a, bs = some a → (storeCells (a.add (len * i.size)) new').run P W = .ok () w') → (bs = none → w' = W) →
    (Builtin.append_ argTypes ty #[.slice bs len cap, x']).run P W = .ok (.slice bs (len + n) cap) w'
  growR : ∃ new2, LRel μ new new2 ∧ ∀ (bs : Option Addr) (len cap : Nat) (lo : List Value), ¬ len + n ≤ cap → (2 * (len + n) + 192) * i.bytes ≤ 281474976710656 → len + n ≤ 4611686018427387904 →
    (Builtin.firstCells i.size len (.slice bs len cap)).run P W.drew = .ok lo.toArray W.drew → ∃ newCap, len + n ≤ newCap ∧ newCap ≤ 9223372036854775807 ∧ (Builtin.append_ argTypes ty #[.slice bs len cap, x']).run P W = .ok (.slice (some ⟨W.heap.size, 0, none⟩) (len + n) newCap)
      (W.drew.alloc (.cells (lo.toArray ++ new2.toArray ++ Builtin.zeroCells zz.cells (newCap - (len + n))) e))

theorem append_retire (h : HRel base W0 μ H W) {argTypes : Array TypeId} {ty e : TypeId} {i : TypeInfo} {zz s s' x' v : Value} {n : Nat} {new : List Value} {H' : IHeap} (hs : VRel μ s s') (hsrc : AppSrc P μ W argTypes ty e i zz x' n new) (hzsz : zz.cells.size = i.size)
    (hnl : new.length = n * i.size) (hok : new.all okCell = true) (hcu : ∀ a len cap, s = .slice a len cap → capU ≤ cap) {len : Nat} (hlen : ∀ a m cap, s = .slice a m cap → m = len) (hi : iappRetire i.size i.bytes len n s new H = some (v, H')) :
    ∃ μ' v' W', (Builtin.append_ argTypes ty #[s', x']).run P W = .ok v' W' ∧ HRel base W0 μ' H' W' ∧ VRel μ' v v' ∧ Evolve μ H μ' H' := by
  obtain ⟨new', hn1, hinR⟩ := hsrc.inR
  have hgrow : ∀ (bs : Option Addr) (len cap' : Nat) (old : List Value) (Hd : IHeap), HRel base W0 μ Hd W → Evolve μ H μ Hd → ¬ len + n ≤ cap' → (2 * (len + n) + 192) * i.bytes ≤ 281474976710656 → len + n ≤ 4611686018427387904 → old.length = len * i.size →
      (∃ old', LRel μ old old' ∧ (Builtin.firstCells i.size len (.slice bs len cap')).run P W.drew = .ok old'.toArray W.drew) →
      ∃ μ' v' W', (Builtin.append_ argTypes ty #[.slice bs len cap', x']).run P W = .ok v' W' ∧ HRel base W0 μ' (Hd.alloc (.cells (old ++ new) i.size false)) W' ∧
        VRel μ' (.slice (some ⟨Hd.next, 0, none⟩) (len + n) (capU + (len + n))) v' ∧ Evolve μ H μ' (Hd.alloc (.cells (old ++ new) i.size false)) := by
    intro bs len cap' old Hd hd0 hev hnc hbig hbig2 holen ⟨old', o1, o2⟩
    obtain ⟨new2, m1, hgr⟩ := hsrc.growR
    obtain ⟨newCap, g1, g1b, g2⟩ := hgr bs len cap' old' hnc hbig hbig2 o2
    have hal := (hd0.drawn (W.drawn + 1)).alloc (T := ⟨W.heap.size, 0, newCap * i.size, i.size⟩) (o := .cells (old ++ new) i.size false) (o' := .cells (old'.toArray ++ new2.toArray ++ Builtin.zeroCells zz.cells (newCap - (len + n))) e) rfl ?_
    · refine ⟨_, _, _, g2, hal.1, slice_new _ _ rfl _ _ _ (.inr ⟨by omega, by omega, g1, ?_, .inr g1b⟩), hev.trans hal.2⟩
      show 0 + newCap * i.size ≤ newCap * i.size
      omega
    · have e1 := o1.length
      have e2 := m1.length
      refine .cells ⟨W.heap.size, 0, newCap * i.size, i.size⟩ _ _ false _ e 0 0 rfl ?_ ?_ (fun _ j _ => by omega)
      · simp only [List.drop_zero, Array.toList_append, List.append_assoc]
        rw [← List.append_assoc, List.take_append_of_le_length (by simp; omega), List.take_of_length_le (by simp; omega)]
        exact o1.append m1
      · simp only [Array.size_append, List.size_toArray, zeroCells_len, hzsz, Nat.zero_add]
        rw [← e1, ← e2, holen, hnl, ← Nat.add_mul, ← Nat.add_mul]
        congr 1
        omega
  unfold iappRetire at hi
  split at hi
  · rename_i b off len2 cap
    have e9 := (hlen _ _ _ rfl).symm
    subst e9
    have hcapU : capU ≤ cap := hcu _ _ _ rfl
    split at hi
    · rename_i cs ee hget
      cases hbb : (Nat.beq ((cs.drop off).take (len * i.size)).length (len * i.size) && Nat.beq ee i.size && Nat.ble ((2 * (len + n) + 192) * i.bytes) 281474976710656 && Nat.ble (len + n) 4611686018427387904)
      · simp only [hbb, cond_false] at hi; cases hi
      · simp only [hbb, cond_true, Option.some.injEq, Prod.mk.injEq] at hi
        obtain ⟨rfl, rfl⟩ := hi
        simp only [Bool.and_eq_true] at hbb
        obtain ⟨⟨⟨b1, b2⟩, b3⟩, b4⟩ := hbb
        have b1 := Nat.eq_of_beq_eq_true b1
        have b2 := Nat.eq_of_beq_eq_true b2
        have b3 := Nat.le_of_ble_eq_true b3
        have b4 := Nat.le_of_ble_eq_true b4
        subst b2
        cases hs with
        | slice _ _ _ _ cap' o' T hm hcr ho =>
          have hcr' : cap - capU ≤ cap' ∧ len ≤ cap' ∧ off + cap' * T.e ≤ T.r ∧ (T.e = 1 ∨ cap' ≤ 9223372036854775807) := by
            rcases hcr with ⟨c1, c2⟩ | ⟨c1, c2, c3, c4, c5⟩
            · omega
            · exact ⟨c2, c3, c4, c5⟩
          obtain ⟨c2, c3, c4, c5⟩ := hcr'
          obtain ⟨hdel, hdelE⟩ := h.del hm
          by_cases hfit : len + n ≤ cap'
          · by_cases hoo : o' = T.d + off
            rotate_left
            · have hdeg : len = 0 ∧ cap' = 0 := by rcases ho with ho | ho; exact absurd ho hoo; exact ho
              obtain ⟨rfl, rfl⟩ := hdeg
              have hn00 : n = 0 := by omega
              subst hn00
              have hnew : new = [] := List.eq_nil_of_length_eq_zero (by omega)
              subst hnew
              have hnew' : new' = [] := List.eq_nil_of_length_eq_zero (by have := hn1.length; simpa using this.symm)
              subst hnew'
              obtain ⟨ob, hob, hor⟩ := h.obj b _ hget T hm
              cases hor with
              | cells _ _ _ arr t lo hi2 hTe hcl hsz hfz =>
                obtain ⟨φ, q⟩ := h.abs
                have hmap := hdel.map_new (T := ⟨T.c, T.d + off, T.r - off, i.size⟩) (o := .cells ((cs.drop off).take (0 * i.size) ++ []) i.size false) (W' := W) (Nat.le_refl _)
                  (fun j _ hj => rfl)
                  (fun b' p T' hb' hm' hv => by
                    intro e1
                    rw [IHeap.get_del] at hb'
                    by_cases e2 : b' = b
                    · rw [if_pos e2] at hb'; cases hb'
                    · rw [if_neg e2] at hb'; exact e2 (h.inj b' b _ _ hb' hget T' T hm' hm hv id e1))
                  ⟨φ, ⟨fun b' a ro T' h1 h2 => q.rep b' a ro T' (IHeap.get_of_del h1).2 h2, fun b' a ro T' h1 h2 b2 o2 T2 h3 h4 h5 => q.far b' a ro T' (IHeap.get_of_del h1).2 h2 b2 o2 T2 (IHeap.get_of_del h3).2 h4 h5⟩,
                    fun b' a ro h1 ⟨T', h2⟩ => (q.far b' a ro T' (IHeap.get_of_del h1).2 h2 b _ T hget hm (Ne.symm (IHeap.get_of_del h1).1) id).1⟩
                  hob (h.own b _ hget rfl T hm id) ?_ rfl rfl
                · refine ⟨_, _, W, hinR _ _ _ _ (Nat.le_refl _) (fun a ha => ?_) (fun ha => by cases ha), hmap.1, ?_, hdelE.trans hmap.2⟩
                  · cases ha
                    simp [storeCells]
                  · exact .slice H.next 0 _ _ _ _ ⟨T.c, T.d + off, T.r - off, i.size⟩ (Inj.ext_same _ _ _) (.inr ⟨by omega, by omega, hfit, by show 0 + 0 * i.size ≤ T.r - off; omega, by omega⟩) (.inr ⟨rfl, rfl⟩)
                · refine .cells ⟨T.c, T.d + off, T.r - off, i.size⟩ _ _ false _ t lo hi2 rfl ?_ ?_ ?_
                  · simp only [Nat.zero_mul, List.take_zero, List.append_nil]; exact .nil
                  · show arr.size = T.d + off + (T.r - off)
                    simp only [Nat.zero_mul, Nat.add_zero] at c4
                    omega
                  · intro _ j hj
                    exact hfz rfl j hj
            subst hoo
            obtain ⟨ob, hob, hor⟩ := h.obj b _ hget T hm
            cases hor with
            | cells _ _ _ arr t lo hi2 hTe hcl hsz hfz =>
              rw [← hTe] at c4
              have hne1 : len * i.size + n * i.size ≤ cap' * i.size := by rw [← Nat.add_mul]; exact Nat.mul_le_mul_right _ hfit
              have hcslen := hcl.length
              have hn1l := hn1.length
              obtain ⟨w', arr', r1, r2, r3, r4, r5, r6, r7⟩ := run_stores_raw P T.c t (lo, hi2) new' 0 (T.d + off + len * i.size) arr W hob (by omega) (fun j hj => hfz rfl j (.inl hj)) (fun q hq => by
                obtain ⟨k, hk, rfl⟩ := List.getElem_of_mem hq
                have hk2 : k < new.length := by omega
                exact okCell_rel (hn1.idx k hk2 hk) (List.all_eq_true.1 hok _ (List.getElem_mem hk2)))
              obtain ⟨φ, q⟩ := h.abs
              have hmap := hdel.map_new (T := ⟨T.c, T.d + off, T.r - off, i.size⟩) (o := .cells ((cs.drop off).take (len * i.size) ++ new) i.size false) (W' := w') (by omega)
                (fun j _ hj => r5 j hj)
                (fun b' p T' hb' hm' hv => by
                  intro e1
                  rw [IHeap.get_del] at hb'
                  by_cases e2 : b' = b
                  · rw [if_pos e2] at hb'; cases hb'
                  · rw [if_neg e2] at hb'; exact e2 (h.inj b' b _ _ hb' hget T' T hm' hm hv id e1))
                ⟨φ, ⟨fun b' a ro T' h1 h2 => q.rep b' a ro T' (IHeap.get_of_del h1).2 h2, fun b' a ro T' h1 h2 b2 o2 T2 h3 h4 h5 => q.far b' a ro T' (IHeap.get_of_del h1).2 h2 b2 o2 T2 (IHeap.get_of_del h3).2 h4 h5⟩,
                  fun b' a ro h1 ⟨T', h2⟩ => (q.far b' a ro T' (IHeap.get_of_del h1).2 h2 b _ T hget hm (Ne.symm (IHeap.get_of_del h1).1) id).1⟩
                r2 (h.own b _ hget rfl T hm id) ?_ r6 r7
              · refine ⟨_, _, w', hinR _ _ _ _ hfit (fun a ha => ?_) (fun ha => by cases ha), hmap.1, ?_, hdelE.trans hmap.2⟩
                · cases ha
                  rw [add_eq]
                  exact r1
                · exact .slice H.next 0 _ _ _ _ ⟨T.c, T.d + off, T.r - off, i.size⟩ (Inj.ext_same _ _ _) (.inr ⟨by omega, by omega, hfit, by show 0 + cap' * i.size ≤ T.r - off; omega, by show i.size = 1 ∨ _; omega⟩) (.inl rfl)
              · refine .cells ⟨T.c, T.d + off, T.r - off, i.size⟩ _ _ false _ t lo hi2 rfl ?_ ?_ ?_
                · have hal : arr.toList.length = arr.size := by simp
                  show LRel μ _ (List.take _ (List.drop (T.d + off) arr'.toList))
                  rw [r3, Nat.add_zero]
                  have hold : LRel μ ((cs.drop off).take (len * i.size)) ((arr.toList.drop (T.d + off)).take (len * i.size)) := by
                    have := (hcl.drop off).take (len * i.size)
                    rw [List.drop_take, List.drop_drop, List.take_take, Nat.min_eq_left (by rw [List.length_take, List.length_drop] at b1; omega)] at this
                    exact this
                  have hsplit : (splice arr.toList (T.d + off + len * i.size) new').drop (T.d + off) = ((arr.toList.drop (T.d + off)).take (len * i.size)) ++ (new' ++ arr.toList.drop (T.d + off + len * i.size + new'.length)) := by
                    unfold splice
                    rw [List.drop_append_of_le_length (by simp; omega), List.drop_take]
                    congr 2
                    omega
                  have hol := hold.length
                  generalize hO : (cs.drop off).take (len * i.size) = O at hold hol b1 ⊢
                  generalize hO' : (arr.toList.drop (T.d + off)).take (len * i.size) = O' at hold hol hsplit
                  rw [hsplit, ← List.append_assoc, List.take_append_of_le_length (by simp only [List.length_append]; omega), List.take_of_length_le (l := O' ++ new') (by simp only [List.length_append]; omega)]
                  exact hold.append hn1
                · show arr'.size = T.d + off + (T.r - off)
                  have : arr'.toList.length = arr.size := by
                    rw [r3]; unfold splice
                    simp only [List.length_append, List.length_take, List.length_drop, Array.length_toList]
                    omega
                  rw [Array.length_toList] at this
                  omega
                · intro _ j hj
                  refine hfz rfl j ?_
                  have hsame : arr'.size = arr.size → (j < arr.size ∨ (j = arr.size ∧ i.size ≠ 1)) := fun e => by rw [← e]; exact hj
                  refine hsame ?_
                  have : arr'.toList.length = arr.size := by
                    rw [r3]; unfold splice
                    simp only [List.length_append, List.length_take, List.length_drop, Array.length_toList]
                    omega
                  rw [Array.length_toList] at this
                  omega
          · refine hgrow _ len cap' _ (H.del b) hdel hdelE hfit b3 b4 b1 ?_
            have hsrcq : ∃ q, isrc i.size (.slice (some ⟨b, off, none⟩) len cap) H = some (len, q) ∧ q = (cs.drop off).take (len * i.size) := by
              unfold isrc
              cases hz0 : Nat.beq (len * i.size) 0
              · simp only [hz0, cond_false, hget]
                rw [show Nat.beq ((cs.drop off).take (len * i.size)).length (len * i.size) = true by rw [b1]; exact Nat.beq_refl _]
                exact ⟨_, rfl, rfl⟩
              · simp only [hz0, cond_true]
                have hz0 := Nat.eq_of_beq_eq_true hz0
                exact ⟨[], rfl, by rw [hz0]; simp⟩
            obtain ⟨q, hq1, hq2⟩ := hsrcq
            obtain ⟨_, ol, old', o1, o2⟩ := src_sim (P := P) (h.drawn (W.drawn + 1)) (VRel.slice b off len cap cap' o' T hm hcr ho) hq1 (Nat.le_refl len)
            rw [List.take_of_length_le (by omega), hq2] at o1
            exact ⟨old', o1, o2⟩
    · cases hi
  · cases hi

theorem append_core (h : HRel base W0 μ H W) {argTypes : Array TypeId} {ty e : TypeId} {i : TypeInfo} {zz s s' x' v : Value} {n : Nat} {new : List Value} {H' : IHeap} (hs : VRel μ s s') (hsrc : AppSrc P μ W argTypes ty e i zz x' n new) (hzsz : zz.cells.size = i.size)
    (hnl : new.length = n * i.size) (hok : new.all okCell = true) (hi : iappTo i.size i.bytes s n new H = some (v, H')) :
    ∃ μ' v' W', (Builtin.append_ argTypes ty #[s', x']).run P W = .ok v' W' ∧ HRel base W0 μ' H' W' ∧ VRel μ' v v' ∧ Evolve μ H μ' H' := by
  obtain ⟨new', hn1, hinR⟩ := hsrc.inR
  have hgrow : ∀ (bs : Option Addr) (len cap' : Nat) (old : List Value) (Hd : IHeap), HRel base W0 μ Hd W → Evolve μ H μ Hd → ¬ len + n ≤ cap' → (2 * (len + n) + 192) * i.bytes ≤ 281474976710656 → len + n ≤ 4611686018427387904 → old.length = len * i.size →
      (∃ old', LRel μ old old' ∧ (Builtin.firstCells i.size len (.slice bs len cap')).run P W.drew = .ok old'.toArray W.drew) →
      ∃ μ' v' W', (Builtin.append_ argTypes ty #[.slice bs len cap', x']).run P W = .ok v' W' ∧ HRel base W0 μ' (Hd.alloc (.cells (old ++ new) i.size false)) W' ∧
        VRel μ' (.slice (some ⟨Hd.next, 0, none⟩) (len + n) (capU + (len + n))) v' ∧ Evolve μ H μ' (Hd.alloc (.cells (old ++ new) i.size false)) := by
    intro bs len cap' old Hd hd0 hev hnc hbig hbig2 holen ⟨old', o1, o2⟩
    obtain ⟨new2, m1, hgr⟩ := hsrc.growR
    obtain ⟨newCap, g1, g1b, g2⟩ := hgr bs len cap' old' hnc hbig hbig2 o2
    have hal := (hd0.drawn (W.drawn + 1)).alloc (T := ⟨W.heap.size, 0, newCap * i.size, i.size⟩) (o := .cells (old ++ new) i.size false) (o' := .cells (old'.toArray ++ new2.toArray ++ Builtin.zeroCells zz.cells (newCap - (len + n))) e) rfl ?_
    · refine ⟨_, _, _, g2, hal.1, slice_new _ _ rfl _ _ _ (.inr ⟨by omega, by omega, g1, ?_, .inr g1b⟩), hev.trans hal.2⟩
      show 0 + newCap * i.size ≤ newCap * i.size
      omega
    · have e1 := o1.length
      have e2 := m1.length
      refine .cells ⟨W.heap.size, 0, newCap * i.size, i.size⟩ _ _ false _ e 0 0 rfl ?_ ?_ (fun _ j _ => by omega)
      · simp only [List.drop_zero, Array.toList_append, List.append_assoc]
        rw [← List.append_assoc, List.take_append_of_le_length (by simp; omega), List.take_of_length_le (by simp; omega)]
        exact o1.append m1
      · simp only [Array.size_append, List.size_toArray, zeroCells_len, hzsz, Nat.zero_add]
        rw [← e1, ← e2, holen, hnl, ← Nat.add_mul, ← Nat.add_mul]
        congr 1
        omega
  unfold iappTo at hi
  split at hi
  · rename_i a len cap
    cases hn0 : Nat.beq n 0
    · simp only [hn0, cond_false] at hi
      have hnpos : n ≠ 0 := by intro e; rw [e] at hn0; cases hn0
      -- in place, surely
      have hin : ∀ (cap' : Nat), s' = .slice (match s' with | .slice a _ _ => a | _ => none) len cap' → len + n ≤ cap' → iappIn i.size len n cap a new H = some (v, H') →
          ∃ μ' v' W', (Builtin.append_ argTypes ty #[s', x']).run P W = .ok v' W' ∧ HRel base W0 μ' H' W' ∧ VRel μ' v v' ∧ Evolve μ H μ' H' := by
        intro cap' hs' hle hin
        unfold iappIn at hin
        split at hin
        · rename_i b off
          cases hs with
          | slice _ _ _ _ cap2 o' T hm hcr ho =>
            have hcc : cap2 = cap' := by injection hs'
            subst hcc
            split at hin
            · rename_i cs ee hget
              cases hbb : Nat.ble (off + len * i.size + new.length) cs.length
              · simp [hbb] at hin
              · simp only [hbb, cond_true, Option.some.injEq, Prod.mk.injEq] at hin
                obtain ⟨rfl, rfl⟩ := hin
                have hbb := Nat.le_of_ble_eq_true hbb
                have hoo : o' = T.d + off := by
                  rcases ho with ho | ⟨h1, h2⟩
                  · exact ho
                  · omega
                subst hoo
                obtain ⟨W', w1, w2, w3⟩ := HRel.stores P hm new new' H W cs (off + len * i.size) 0 h hget hn1 hok (by omega)
                refine ⟨μ, _, W', hinR _ _ _ _ hle (fun a ha => ?_) (fun ha => by cases ha), w2, ?_, w3⟩
                · cases ha
                  rw [add_eq, Nat.add_assoc]
                  exact w1
                · refine .slice b off _ _ _ _ T hm ?_ (.inl rfl)
                  rcases hcr with ⟨c1, c2⟩ | ⟨c1, c2, c3, c4, c5⟩
                  · exact .inl ⟨c1, c2⟩
                  · exact .inr ⟨c1, c2, hle, c4, c5⟩
            · cases hin
        · cases hin
      cases hx1 : Nat.blt cap capU
      · simp only [hx1, cond_false] at hi
        have hcapU : capU ≤ cap := by
          rcases Nat.lt_or_ge cap capU with hh | hh
          · exact absurd (Nat.ble_eq_true_of_le hh) (by rw [show Nat.ble (cap + 1) capU = Nat.blt cap capU from rfl, hx1]; decide)
          · exact hh
        cases hx2 : Nat.ble (len + n) (cap - capU)
        · simp only [hx2, cond_false] at hi
          unfold iappRetire at hi
          split at hi
          · rename_i b off _ _ heq
            cases heq
            split at hi
            · rename_i cs ee hget
              cases hbb : (Nat.beq ((cs.drop off).take (len * i.size)).length (len * i.size) && Nat.beq ee i.size && Nat.ble ((2 * (len + n) + 192) * i.bytes) 281474976710656 && Nat.ble (len + n) 4611686018427387904)
              · simp only [hbb, cond_false] at hi; cases hi
              · simp only [hbb, cond_true, Option.some.injEq, Prod.mk.injEq] at hi
                obtain ⟨rfl, rfl⟩ := hi
                simp only [Bool.and_eq_true] at hbb
                obtain ⟨⟨⟨b1, b2⟩, b3⟩, b4⟩ := hbb
                have b1 := Nat.eq_of_beq_eq_true b1
                have b2 := Nat.eq_of_beq_eq_true b2
                have b3 := Nat.le_of_ble_eq_true b3
                have b4 := Nat.le_of_ble_eq_true b4
                subst b2
                cases hs with
                | slice _ _ _ _ cap' o' T hm hcr ho =>
                  have hcr' : cap - capU ≤ cap' ∧ len ≤ cap' ∧ off + cap' * T.e ≤ T.r ∧ (T.e = 1 ∨ cap' ≤ 9223372036854775807) := by
                    rcases hcr with ⟨c1, c2⟩ | ⟨c1, c2, c3, c4, c5⟩
                    · omega
                    · exact ⟨c2, c3, c4, c5⟩
                  obtain ⟨c2, c3, c4, c5⟩ := hcr'
                  obtain ⟨hdel, hdelE⟩ := h.del hm
                  by_cases hfit : len + n ≤ cap'
                  · have hoo : o' = T.d + off := by
                      rcases ho with ho | ⟨h1, h2⟩
                      · exact ho
                      · omega
                    subst hoo
                    obtain ⟨ob, hob, hor⟩ := h.obj b _ hget T hm
                    cases hor with
                    | cells _ _ _ arr t lo hi2 hTe hcl hsz hfz =>
                      rw [← hTe] at c4
                      have hne1 : len * i.size + n * i.size ≤ cap' * i.size := by rw [← Nat.add_mul]; exact Nat.mul_le_mul_right _ hfit
                      have hcslen := hcl.length
                      have hn1l := hn1.length
                      obtain ⟨w', arr', r1, r2, r3, r4, r5, r6, r7⟩ := run_stores_raw P T.c t (lo, hi2) new' 0 (T.d + off + len * i.size) arr W hob (by omega) (fun j hj => hfz rfl j (.inl hj)) (fun q hq => by
                        obtain ⟨k, hk, rfl⟩ := List.getElem_of_mem hq
                        have hk2 : k < new.length := by omega
                        exact okCell_rel (hn1.idx k hk2 hk) (List.all_eq_true.1 hok _ (List.getElem_mem hk2)))
                      obtain ⟨φ, q⟩ := h.abs
                      have hmap := hdel.map_new (T := ⟨T.c, T.d + off, T.r - off, i.size⟩) (o := .cells ((cs.drop off).take (len * i.size) ++ new) i.size false) (W' := w') (by omega)
                        (fun j _ hj => r5 j hj)
                        (fun b' p T' hb' hm' hv => by
                          intro e1
                          rw [IHeap.get_del] at hb'
                          by_cases e2 : b' = b
                          · rw [if_pos e2] at hb'; cases hb'
                          · rw [if_neg e2] at hb'; exact e2 (h.inj b' b _ _ hb' hget T' T hm' hm hv id e1))
                        ⟨φ, ⟨fun b' a ro T' h1 h2 => q.rep b' a ro T' (IHeap.get_of_del h1).2 h2, fun b' a ro T' h1 h2 b2 o2 T2 h3 h4 h5 => q.far b' a ro T' (IHeap.get_of_del h1).2 h2 b2 o2 T2 (IHeap.get_of_del h3).2 h4 h5⟩,
                          fun b' a ro h1 ⟨T', h2⟩ => (q.far b' a ro T' (IHeap.get_of_del h1).2 h2 b _ T hget hm (Ne.symm (IHeap.get_of_del h1).1) id).1⟩
                        r2 (h.own b _ hget rfl T hm id) ?_ r6 r7
                      · refine ⟨_, _, w', hinR _ _ _ _ hfit (fun a ha => ?_) (fun ha => by cases ha), hmap.1, ?_, hdelE.trans hmap.2⟩
                        · cases ha
                          rw [add_eq]
                          exact r1
                        · exact .slice H.next 0 _ _ _ _ ⟨T.c, T.d + off, T.r - off, i.size⟩ (Inj.ext_same _ _ _) (.inr ⟨by omega, by omega, hfit, by show 0 + cap' * i.size ≤ T.r - off; omega, by show i.size = 1 ∨ _; omega⟩) (.inl rfl)
                      · refine .cells ⟨T.c, T.d + off, T.r - off, i.size⟩ _ _ false _ t lo hi2 rfl ?_ ?_ ?_
                        · have hal : arr.toList.length = arr.size := by simp
                          show LRel μ _ (List.take _ (List.drop (T.d + off) arr'.toList))
                          rw [r3, Nat.add_zero]
                          have hold : LRel μ ((cs.drop off).take (len * i.size)) ((arr.toList.drop (T.d + off)).take (len * i.size)) := by
                            have := (hcl.drop off).take (len * i.size)
                            rw [List.drop_take, List.drop_drop, List.take_take, Nat.min_eq_left (by rw [List.length_take, List.length_drop] at b1; omega)] at this
                            exact this
                          have hsplit : (splice arr.toList (T.d + off + len * i.size) new').drop (T.d + off) = ((arr.toList.drop (T.d + off)).take (len * i.size)) ++ (new' ++ arr.toList.drop (T.d + off + len * i.size + new'.length)) := by
                            unfold splice
                            rw [List.drop_append_of_le_length (by simp; omega), List.drop_take]
                            congr 2
                            omega
                          have hol := hold.length
                          generalize hO : (cs.drop off).take (len * i.size) = O at hold hol b1 ⊢
                          generalize hO' : (arr.toList.drop (T.d + off)).take (len * i.size) = O' at hold hol hsplit
                          rw [hsplit, ← List.append_assoc, List.take_append_of_le_length (by simp only [List.length_append]; omega), List.take_of_length_le (l := O' ++ new') (by simp only [List.length_append]; omega)]
                          exact hold.append hn1
                        · show arr'.size = T.d + off + (T.r - off)
                          have : arr'.toList.length = arr.size := by
                            rw [r3]; unfold splice
                            simp only [List.length_append, List.length_take, List.length_drop, Array.length_toList]
                            omega
                          rw [Array.length_toList] at this
                          omega
                        · intro _ j hj
                          refine hfz rfl j ?_
                          have hsame : arr'.size = arr.size → (j < arr.size ∨ (j = arr.size ∧ i.size ≠ 1)) := fun e => by rw [← e]; exact hj
                          refine hsame ?_
                          have : arr'.toList.length = arr.size := by
                            rw [r3]; unfold splice
                            simp only [List.length_append, List.length_take, List.length_drop, Array.length_toList]
                            omega
                          rw [Array.length_toList] at this
                          omega
                  · refine hgrow _ len cap' _ (H.del b) hdel hdelE hfit b3 b4 b1 ?_
                    have hsrcq : ∃ q, isrc i.size (.slice (some ⟨b, off, none⟩) len cap) H = some (len, q) ∧ q = (cs.drop off).take (len * i.size) := by
                      unfold isrc
                      cases hz0 : Nat.beq (len * i.size) 0
                      · simp only [hz0, cond_false, hget]
                        rw [show Nat.beq ((cs.drop off).take (len * i.size)).length (len * i.size) = true by rw [b1]; exact Nat.beq_refl _]
                        exact ⟨_, rfl, rfl⟩
                      · simp only [hz0, cond_true]
                        have hz0 := Nat.eq_of_beq_eq_true hz0
                        exact ⟨[], rfl, by rw [hz0]; simp⟩
                    obtain ⟨q, hq1, hq2⟩ := hsrcq
                    obtain ⟨_, ol, old', o1, o2⟩ := src_sim (P := P) (h.drawn (W.drawn + 1)) (VRel.slice b off len cap cap' o' T hm hcr ho) hq1 (Nat.le_refl len)
                    rw [List.take_of_length_le (by omega), hq2] at o1
                    exact ⟨old', o1, o2⟩
            · cases hi
          · cases hi
        · simp only [hx2, cond_true] at hi
          have hx2 := Nat.le_of_ble_eq_true hx2
          cases hs with
          | nilslice => unfold iappIn at hi; simp at hi
          | vslice => unfold iappIn at hi; simp at hi
          | vnil => unfold iappIn at hi; simp at hi
          | slice b o _ _ cap' o' T hm hcr ho =>
            refine hin cap' rfl ?_ hi
            rcases hcr with ⟨c1, c2⟩ | ⟨c1, c2, c3, c4, c5⟩ <;> omega
      · simp only [hx1, cond_true] at hi
        have hx1 : cap < capU := Nat.le_of_ble_eq_true hx1
        cases hx2 : Nat.ble (len + n) cap
        · simp only [hx2, cond_false] at hi
          have hx2 : ¬ len + n ≤ cap := fun hh => by rw [Nat.ble_eq_true_of_le hh] at hx2; cases hx2
          unfold iappGrow at hi
          split at hi
          · rename_i m old hso
            cases hbb : (Nat.ble ((2 * (len + n) + 192) * i.bytes) 281474976710656 && Nat.ble (len + n) 4611686018427387904)
            · simp only [hbb, cond_false] at hi; cases hi
            · simp only [hbb, cond_true, Option.some.injEq, Prod.mk.injEq] at hi
              obtain ⟨rfl, rfl⟩ := hi
              simp only [Bool.and_eq_true] at hbb
              have b1 := Nat.le_of_ble_eq_true hbb.1
              have b2 := Nat.le_of_ble_eq_true hbb.2
              have hlen2 := (src_sim (P := P) h hs hso (Nat.zero_le m)).1
              cases hs with
              | vslice => simp [isrc] at hso
              | vnil => simp [isrc] at hso
              | nilslice =>
                have hml : len = m := by simpa [Builtin.lenOf] using hlen2
                subst hml
                obtain ⟨_, ol, old', o1, o2⟩ := src_sim (P := P) (h.drawn (W.drawn + 1)) (VRel.nilslice len cap) hso (Nat.le_refl len)
                rw [List.take_of_length_le (by omega)] at o1
                exact hgrow none len cap old H h (Evolve.refl _ _) hx2 b1 b2 ol ⟨old', o1, o2⟩
              | slice b o _ _ cap' o' T hm hcr ho =>
                have hml : len = m := by simpa [Builtin.lenOf] using hlen2
                subst hml
                have hce : cap' = cap := by rcases hcr with ⟨_, c2⟩ | ⟨c1, _⟩ <;> omega
                subst hce
                obtain ⟨_, ol, old', o1, o2⟩ := src_sim (P := P) (h.drawn (W.drawn + 1)) (VRel.slice b o len cap' cap' o' T hm hcr ho) hso (Nat.le_refl len)
                rw [List.take_of_length_le (by omega)] at o1
                exact hgrow _ len cap' old H h (Evolve.refl _ _) hx2 b1 b2 ol ⟨old', o1, o2⟩
          · cases hi
        · simp only [hx2, cond_true] at hi
          have hx2 := Nat.le_of_ble_eq_true hx2
          cases hs with
          | nilslice => unfold iappIn at hi; simp at hi
          | vslice => unfold iappIn at hi; simp at hi
          | vnil => unfold iappIn at hi; simp at hi
          | slice b o _ _ cap' o' T hm hcr ho =>
            refine hin cap' rfl ?_ hi
            rcases hcr with ⟨c1, c2⟩ | ⟨c1, c2, c3, c4, c5⟩ <;> omega
    · simp only [hn0, cond_true] at hi
      have hn0 := Nat.eq_of_beq_eq_true hn0
      subst hn0
      have hnew : new' = [] := by
        have := hn1.length
        rw [hnl] at this
        exact List.eq_nil_of_length_eq_zero (by omega)
      subst hnew
      cases hle : Nat.ble len cap
      · simp [hle] at hi
      · simp only [hle, cond_true, Option.some.injEq, Prod.mk.injEq] at hi
        obtain ⟨rfl, rfl⟩ := hi
        have hle := Nat.le_of_ble_eq_true hle
        cases hs with
        | vslice b j _ _ cap' o' T hm hcr ho hr =>
          refine ⟨μ, _, W, hinR _ _ _ _ ?_ (fun a ha => rfl) (fun ha => by cases ha), h, .vslice b j _ _ _ o' T hm hcr ho hr, Evolve.refl _ _⟩
          rcases hcr with ⟨c1, c2⟩ | ⟨c1, c2, c3, c4, c5⟩ <;> omega
        | nilslice =>
          exact ⟨μ, _, W, hinR _ _ _ _ hle (fun a ha => by cases ha) (fun _ => rfl), h, .nilslice _ _, Evolve.refl _ _⟩
        | vnil b j cap T a hm hc =>
          exact ⟨μ, _, W, hinR _ _ _ _ (Nat.le_refl _) (fun a ha => rfl) (fun _ => rfl), h, .vnil b j cap T a hm hc, Evolve.refl _ _⟩
        | slice b o _ _ cap' o' T hm hcr ho =>
          refine ⟨μ, _, W, hinR _ _ _ _ ?_ (fun a ha => rfl) (fun ha => by cases ha), h, .slice b o _ _ _ o' T hm hcr ho, Evolve.refl _ _⟩
          rcases hcr with ⟨c1, c2⟩ | ⟨c1, c2, c3, c4, c5⟩ <;> omega
  · cases hi

theorem src_Z {argTypes : Array TypeId} {ty sT xT e : TypeId} {k : IntKind} {i : TypeInfo} {n : Nat} {kx : IntKind} {zz : Value} {z : List Value} (hz4 : zz.cells.toList = z) (hfl : flat zz = true)
    (ht : argTypes.toList = [sT, xT]) (hu : P.underlying sT = some (.slice e)) (hux : P.underlying xT = some (.int k)) (hi : P.info? e = some i) (hz : i.zero = some zz) (hzl : zz.cells.size = i.size) (hb : n * i.bytes ≤ 281474976710656) (hn : n ≤ 9223372036854775807) :
    AppSrc P μ W argTypes ty e i zz (.int kx (Int.ofNat n)) n (zerosL z (n * z.length)) := by
  obtain rfl : argTypes = #[sT, xT] := by rw [← Array.toList_inj]; simpa using ht
  have hw : IntKind.i64.wrap (n : Int) = (n : Int) := by rw [IntKind.wrap_i64]; omega
  have hnb : ¬ (281474976710656 < (n : Int) * (i.bytes : Int)) := by
    have : ((n * i.bytes : Nat) : Int) ≤ 281474976710656 := by omega
    rw [Int.natCast_mul] at this; omega
  have hn0 : ¬ ((n : Int) < 0) := by omega
  have hzn : z.length = zz.cells.size := by rw [← hz4]; simp
  have hlr : LRel μ (zerosL z (n * z.length)) (Builtin.zeroCells zz.cells n).toList := by
    have := zeros_sim (μ := μ) hfl hz4 (n * z.length)
    rw [hzn] at this ⊢
    exact this
  have hz0 : n * i.size = 0 → (Builtin.zeroCells zz.cells n) = #[] := by
    intro h0
    apply Array.eq_empty_of_size_eq_zero
    rw [zeroCells_len, hzl, h0]
  refine ⟨⟨_, hlr, fun bs len cap w' hc hst hno => ?_⟩, ⟨_, hlr, fun bs len cap lo hnc hbig hbig2 hfo => ?_⟩⟩
  · by_cases h0 : n * i.size = 0
    · rw [hz0 h0] at hst
      cases bs with
      | none =>
        obtain rfl := hno rfl
        simp [Builtin.append_, run_underlying hu, run_underlying hux, sizeOf, typeInfo, hi, asInt, asIntOf, hw, hnb, hn0, hc, h0]
      | some a =>
        have hst := hst a rfl
        simp [Builtin.append_, run_underlying hu, run_underlying hux, sizeOf, typeInfo, hi, asInt, asIntOf, hw, hnb, hn0, hc, h0, hst]
    · cases bs with
      | none =>
        obtain rfl := hno rfl
        simp [Builtin.append_, run_underlying hu, run_underlying hux, sizeOf, typeInfo, zeroValue, hi, hz, asInt, asIntOf, hw, hnb, hn0, hc]
      | some a =>
        have hst := hst a rfl
        simp [Builtin.append_, run_underlying hu, run_underlying hux, sizeOf, typeInfo, zeroValue, hi, hz, asInt, asIntOf, hw, hnb, hn0, hc, h0, hst]
  · have hnc' := nextcap_le (need := len + n) (cap := cap) (by omega)
    have h48 : ¬ (281474976710656 < Builtin.nextslicecap (len + n) cap * i.bytes) := by
      have := Nat.mul_le_mul_right i.bytes hnc'
      omega
    have h63 : ¬ (9223372036854775807 < ((len : Int) + (n : Int))) := by omega
    refine ⟨grownCap W (len + n) cap e, by simp [grownCap, Question.cut], by simp only [grownCap, Question.cut]; have := Nat.mod_lt (W.tape W.drawn (.appendCap (len + n) cap e)) (y := 2 ^ 63 - (len + n)) (by omega); omega, ?_⟩
    by_cases h0 : n * i.size = 0
    · rw [hz0 h0]
      simp [Builtin.append_, run_underlying hu, run_underlying hux, sizeOf, typeInfo, zeroValue, hi, hz, asInt, asIntOf, hw, hnb, hn0, hnc, h63, h48, Question.forced, h0, hfo, newRow, grownCap]
    · simp [Builtin.append_, run_underlying hu, run_underlying hux, sizeOf, typeInfo, zeroValue, hi, hz, asInt, asIntOf, hw, hnb, hn0, hnc, h63, h48, Question.forced, h0, hfo, newRow, grownCap]
theorem appSrc_of (h : HRel base W0 μ H W) {argTypes : Array TypeId} {ty sT xT e : TypeId} {i : TypeInfo} {zz x x' : Value} {n : Nat} {new : List Value} (hty : argTypes.toList = [sT, xT]) (hu : P.underlying sT = some (.slice e)) (hss : sliceOrString (P.underlying xT) = true)
    (hie : P.info? e = some i) (q2 : i.zero = some zz) (hx : VRel μ x x') (hsrc : isrc i.size x H = some (n, new)) : AppSrc P μ W argTypes ty e i zz x' n new := by
  obtain ⟨d, hux, hd⟩ := sliceOrString_eq hss
  obtain ⟨hlen, hnl, new', hn1, hn2⟩ := src_sim (P := P) h hx hsrc (Nat.le_refl n)
  rw [List.take_of_length_le (by omega)] at hn1
  refine ⟨⟨new', hn1, fun bs len cap w' hc hst hno => run_append_in hty hu hux hd hie hlen hc hn2 hst hno⟩, ?_⟩
  obtain ⟨_, _, new2, m1, m2⟩ := src_sim (P := P) (h.drawn (W.drawn + 1)) hx hsrc (Nat.le_refl n)
  rw [List.take_of_length_le (by omega)] at m1
  exact ⟨new2, m1, fun bs len cap lo hnc hbig hbig2 o2 => run_append_grow' (ty := ty) (P := P) (W := W) (bs := bs) (cap := cap) hty hu hux hd hie q2 hlen hnc hbig hbig2 m2 o2⟩
theorem append_sim (h : HRel base W0 μ H W) {argTypes : Array TypeId} {args : List Value} {args' : Array Value} {ty : TypeId} {v : Value} {H' : IHeap} (ha : LRel μ args args'.toList) (hi : iappend P argTypes args H = some (v, H')) :
    ∃ μ' v' W', (Builtin.append_ argTypes ty args').run P W = .ok v' W' ∧ HRel base W0 μ' H' W' ∧ VRel μ' v v' ∧ Evolve μ H μ' H' := by
  unfold iappend at hi
  split at hi
  · rename_i sT xT s x hty
    obtain ⟨s', x', rfl, hs, hx⟩ : ∃ s' x', args' = #[s', x'] ∧ VRel μ s s' ∧ VRel μ x x' := by
      generalize hq : args'.toList = q at ha
      cases ha with
      | cons h1 h2 => cases h2 with
        | cons h3 h4 => cases h4; exact ⟨_, _, by rw [← Array.toList_inj, hq], h1, h3⟩
    split at hi
    · rename_i e hu
      split at hi
      · rename_i i z hie hz
        obtain ⟨i2, zz, q1, q2, q3, q4⟩ := zeroL_eq hz
        rw [hie] at q1; cases q1
        cases hint : isIntD (P.underlying xT)
        case true =>
          simp only [hint, cond_true] at hi
          split at hi
          · rename_i n new hsz
            cases hc : (new.all okCell && Nat.beq z.length i.size)
            · simp only [hc, cond_false] at hi; cases hi
            · simp only [hc, cond_true] at hi
              simp only [Bool.and_eq_true] at hc
              have hzl := Nat.eq_of_beq_eq_true hc.2
              obtain ⟨k, hux⟩ : ∃ k, P.underlying xT = some (.int k) := by
                unfold isIntD at hint
                split at hint
                · rename_i k e; exact ⟨k, e⟩
                · cases hint
              unfold isrcZ at hsz
              split at hsz
              · rename_i kx m
                cases hbb : (Nat.ble (m * i.bytes) 281474976710656 && Nat.ble m 9223372036854775807)
                · simp [hbb] at hsz
                · simp only [hbb, cond_true, Option.some.injEq, Prod.mk.injEq] at hsz
                  obtain ⟨rfl, rfl⟩ := hsz
                  simp only [Bool.and_eq_true] at hbb
                  cases hx
                  have hzsz : zz.cells.size = i.size := by rw [← hzl, ← q4]; simp
                  exact append_core (e := e) h hs (src_Z q4 q3 hty hu hux hie q2 hzsz (Nat.le_of_ble_eq_true hbb.1) (Nat.le_of_ble_eq_true hbb.2)) hzsz (by simp [zerosL, hzl]) hc.1 hi
              · cases hsz
          · cases hi
        case false =>
        simp only [hint, cond_false] at hi
        split at hi
        · rename_i n new hsrc
          cases hc : (sliceOrString (P.underlying xT) && new.all okCell && Nat.beq z.length i.size)
          · simp only [hc, cond_false] at hi; cases hi
          simp only [hc, cond_true] at hi
          simp only [Bool.and_eq_true] at hc
          obtain ⟨⟨hss, hok⟩, hzl⟩ := hc
          obtain ⟨d, hux, hd⟩ := sliceOrString_eq hss
          have hzl := Nat.eq_of_beq_eq_true hzl
          have hzsz : zz.cells.size = i.size := by rw [← hzl, ← q4]; simp
          obtain ⟨hlen, hnl, new', hn1, hn2⟩ := src_sim (P := P) h hx hsrc (Nat.le_refl n)
          rw [List.take_of_length_le (by omega)] at hn1
          exact append_core (e := e) h hs (appSrc_of h hty hu hss hie q2 hx hsrc) hzsz hnl hok hi
        · cases hi
      · cases hi
    · cases hi
  · cases hi

end
end Go.Ideal

namespace Go.Ideal
section
variable {P : Program} {base : Env} {W0 : World} {μ : Inj} {H : IHeap} {W : World}

noncomputable def icopy (P : Program) (argTypes : Array TypeId) (args : List Value) (H : IHeap) : Option (Value × IHeap) :=
  match argTypes.toList, args with
  | dT :: _, [.slice a dLen _, src] =>
    match P.underlying dT with
    | some (.slice e) =>
      match sizeT P e with
      | some sz =>
        match isrc sz src H with
        | some (n, l) =>
          let m := Nat.min n dLen
          let new := l.take (m * sz)
          bif Nat.beq (m * sz) 0 then some (.int .i64 (Int.ofNat m), H) else
          match a with
          | some ⟨b, off, none⟩ =>
            match H.get b with
            | some (.cells cs e false) =>
              bif new.all okCell && Nat.ble (off + new.length) cs.length then some (.int .i64 (Int.ofNat m), H.put b (.cells (splice cs off new) e false)) else none
            | _ => none
          | _ => none
        | none => none
      | none => none
    | _ => none
  | _, _ => none

theorem two_args {args : List Value} {args' : Array Value} {s x : Value} (ha : LRel μ args args'.toList) (he : args = [s, x]) : ∃ s' x', args' = #[s', x'] ∧ VRel μ s s' ∧ VRel μ x x' := by
  subst he
  generalize hq : args'.toList = q at ha
  cases ha with
  | cons h1 h2 => cases h2 with
    | cons h3 h4 => cases h4; exact ⟨_, _, by rw [← Array.toList_inj, hq], h1, h3⟩
theorem one_arg {args : List Value} {args' : Array Value} {s : Value} (ha : LRel μ args args'.toList) (he : args = [s]) : ∃ s', args' = #[s'] ∧ VRel μ s s' := by
  subst he
  generalize hq : args'.toList = q at ha
  cases ha with
  | cons h1 h2 => cases h2; exact ⟨_, by rw [← Array.toList_inj, hq], h1⟩

theorem copy_sim (h : HRel base W0 μ H W) {argTypes : Array TypeId} {args : List Value} {args' : Array Value} {ty : TypeId} {v : Value} {H' : IHeap} (ha : LRel μ args args'.toList) (hi : icopy P argTypes args H = some (v, H')) :
    ∃ v' W', (Builtin.copy_ argTypes ty args').run P W = .ok v' W' ∧ HRel base W0 μ H' W' ∧ VRel μ v v' ∧ Evolve μ H μ H' := by
  unfold icopy at hi
  split at hi
  · rename_i dT rest a dLen dCap src hty
    obtain ⟨s', x', rfl, hs, hx⟩ := two_args ha rfl
    have ht0 : argTypes[0]? = some dT := by rw [← Array.getElem?_toList, hty]; rfl
    split at hi
    · rename_i e hu
      split at hi
      · rename_i sz hsz
        split at hi
        · rename_i n l hsrc
          obtain ⟨hlen, hll, l', r1, r2⟩ := src_sim (P := P) h hx hsrc (Nat.min_le_left n dLen)
          have hml : Nat.min n dLen * sz ≤ n * sz := Nat.mul_le_mul_right _ (Nat.min_le_left _ _)
          have htl : (l.take (Nat.min n dLen * sz)).length = Nat.min n dLen * sz := by rw [List.length_take]; omega
          cases hz : Nat.beq (Nat.min n dLen * sz) 0
          · simp only [hz, cond_false] at hi
            split at hi
            · rename_i b off
              cases hs with
              | slice _ _ _ _ cap' o' T hm hcr ho =>
                split at hi
                · rename_i cs ee hget
                  cases hbb : ((l.take (Nat.min n dLen * sz)).all okCell && Nat.ble (off + (l.take (Nat.min n dLen * sz)).length) cs.length)
                  · rw [hbb] at hi; cases hi
                  · rw [hbb] at hi
                    simp only [cond_true, Option.some.injEq, Prod.mk.injEq] at hi
                    obtain ⟨rfl, rfl⟩ := hi
                    simp only [Bool.and_eq_true] at hbb
                    have b2 := Nat.le_of_ble_eq_true hbb.2
                    have hnz : Nat.min n dLen * sz ≠ 0 := by intro e1; rw [e1] at hz; cases hz
                    have hoo : o' = T.d + off := by
                      rcases ho with ho | ⟨h1, _⟩
                      · exact ho
                      · subst h1; exact absurd (by simp) hnz
                    subst hoo
                    obtain ⟨W', w1, w2, w3⟩ := HRel.stores P hm _ l' H W cs off 0 h hget r1 hbb.1 (by omega)
                    refine ⟨_, W', ?_, w2, .int _ _, w3⟩
                    simp only [Builtin.copy_, ht0, List.getElem?_toArray, List.getElem?_cons_zero, List.getElem?_cons_succ, Sem.run_bind, run_underlying hu, Result.andThen_ok, hlen, run_sizeOf' hsz, r2, w1, Sem.run_pure, goInt]
                    rfl
                · cases hi
            · cases hi
          · simp only [hz, cond_true, Option.some.injEq, Prod.mk.injEq] at hi
            obtain ⟨rfl, rfl⟩ := hi
            have hz := Nat.eq_of_beq_eq_true hz
            have hl0 : l' = [] := by
              have := r1.length
              rw [htl, hz] at this
              exact List.eq_nil_of_length_eq_zero this.symm
            subst hl0
            refine ⟨.int .i64 (Int.ofNat (Nat.min n dLen)), W, ?_, h, .int _ _, Evolve.refl _ _⟩
            cases hs with
            | nilslice => simp [Builtin.copy_, ht0, run_underlying hu, hlen, run_sizeOf' hsz, r2, goInt]
            | vnil _ _ _ _ a =>
              rw [Nat.min_zero] at r2
              cases a <;> simp [storeCells, Builtin.copy_, ht0, run_underlying hu, hlen, run_sizeOf' hsz, r2, goInt]
            | vslice => simp [Builtin.copy_, ht0, run_underlying hu, hlen, run_sizeOf' hsz, r2, goInt, storeCells]
            | slice => simp [Builtin.copy_, ht0, run_underlying hu, hlen, run_sizeOf' hsz, r2, goInt, storeCells]
        · cases hi
      · cases hi
    · cases hi
  · cases hi

noncomputable def iclear (P : Program) (argTypes : Array TypeId) (args : List Value) (H : IHeap) : Option (Value × IHeap) :=
  match argTypes.toList, args with
  | t :: _, [.slice a n _] =>
    match P.underlying t with
    | some (.slice e) =>
      bif Nat.beq n 0 then some (Go.undef, H) else
      match zeroL P e, a with
      | some z, some ⟨b, off, none⟩ =>
        match H.get b with
        | some (.cells cs e false) =>
          let new := zerosL z (n * z.length)
          bif new.all okCell && Nat.ble (off + new.length) cs.length then some (Go.undef, H.put b (.cells (splice cs off new) e false)) else none
        | _ => none
      | _, _ => none
    | _ => none
  | _, _ => none

theorem clear_sim (h : HRel base W0 μ H W) {argTypes : Array TypeId} {args : List Value} {args' : Array Value} {ty : TypeId} {v : Value} {H' : IHeap} (ha : LRel μ args args'.toList) (hi : iclear P argTypes args H = some (v, H')) :
    ∃ v' W', (Builtin.clear_ argTypes ty args').run P W = .ok v' W' ∧ HRel base W0 μ H' W' ∧ VRel μ v v' ∧ Evolve μ H μ H' := by
  unfold iclear at hi
  split at hi
  · rename_i t rest a n cap hty
    obtain ⟨s', rfl, hs⟩ := one_arg ha rfl
    have ht0 : argTypes[0]? = some t := by rw [← Array.getElem?_toList, hty]; rfl
    split at hi
    · rename_i e hu
      cases hz : Nat.beq n 0
      · simp only [hz, cond_false] at hi
        have hn0 : n ≠ 0 := by intro e1; rw [e1] at hz; cases hz
        split at hi
        · rename_i z b off hzl
          obtain ⟨zz, q1, q2, q3⟩ := run_zeroValue' hzl W
          cases hs with
          | slice _ _ _ _ cap' o' T hm hcr ho =>
            split at hi
            · rename_i cs ee hget
              cases hbb : ((zerosL z (n * z.length)).all okCell && Nat.ble (off + (zerosL z (n * z.length)).length) cs.length)
              · simp only [hbb, cond_false] at hi; cases hi
              · simp only [hbb, cond_true, Option.some.injEq, Prod.mk.injEq] at hi
                obtain ⟨rfl, rfl⟩ := hi
                simp only [Bool.and_eq_true] at hbb
                have b2 := Nat.le_of_ble_eq_true hbb.2
                have hoo : o' = T.d + off := by
                  rcases ho with ho | ⟨h1, _⟩
                  · exact ho
                  · exact absurd h1 hn0
                subst hoo
                have hl := zeros_sim (μ := μ) q2 q3 (n * z.length)
                obtain ⟨W', w1, w2, w3⟩ := HRel.stores P hm _ _ H W cs off 0 h hget hl hbb.1 (by omega)
                refine ⟨_, W', ?_, w2, VRel.undef μ, w3⟩
                have hzc : (Builtin.zeroCells zz.cells n).toList = ((Array.range (n * z.length)).map (zz.cells[· % zz.cells.size]!)).toList := by
                  have : zz.cells.size = z.length := by rw [← q3]; simp
                  simp only [Builtin.zeroCells, this]
                obtain ⟨k, rfl⟩ : ∃ k, n = k + 1 := ⟨n - 1, by omega⟩
                simp only [Builtin.clear_, ht0, List.getElem?_toArray, List.getElem?_cons_zero, Sem.run_bind, run_underlying hu, Result.andThen_ok, q1, hzc, w1, Sem.run_pure]
                rfl
            · cases hi
        · cases hi
      · simp only [hz, cond_true, Option.some.injEq, Prod.mk.injEq] at hi
        obtain ⟨rfl, rfl⟩ := hi
        have hz := Nat.eq_of_beq_eq_true hz
        subst hz
        refine ⟨_, W, ?_, h, VRel.undef μ, Evolve.refl _ _⟩
        cases hs with
        | vnil _ _ _ _ a => cases a <;> simp [Builtin.clear_, ht0, run_underlying hu] <;> rfl
        | _ => simp [Builtin.clear_, ht0, run_underlying hu] <;> rfl
    · cases hi
  · cases hi

def ilen (P : Program) (t : TypeId) (x : Value) : Option Value :=
  match P.underlying t, x with
  | some .string, .string s => some (.int .i64 (Int.ofNat s.size))
  | some (.array n _), _ => some (.int .i64 (Int.ofNat n))
  | some (.slice _), .slice _ n _ => some (.int .i64 (Int.ofNat n))
  | _, _ => none
theorem len_sim {argTypes : Array TypeId} {t ty : TypeId} {x x' v : Value} (hx : VRel μ x x') (ht : argTypes[0]? = some t) (hi : ilen P t x = some v) :
    (Builtin.len_ argTypes ty #[x']).run P W = .ok v W ∧ ∃ n, v = .int .i64 n := by
  unfold ilen at hi
  split at hi
  · rename_i s hu; cases hx; cases hi; exact ⟨by simp [Builtin.len_, ht, run_underlying hu, goInt], _, rfl⟩
  · rename_i n e hu; cases hi; exact ⟨by simp [Builtin.len_, ht, run_underlying hu, goInt], _, rfl⟩
  · rename_i a n c hu
    cases hi
    cases hx <;> exact ⟨by simp [Builtin.len_, ht, run_underlying hu, goInt], _, rfl⟩
  · cases hi

def ifieldAddr (P : Program) (s : TypeId) (x : Value) (k : Nat) : Option Value :=
  match P.underlying s, x with
  | some (.struct fields), .pointer (some ⟨b, off, none⟩) =>
    match fields.toList[k]? with
    | some f => match sizeT P f.type with
      | some n => bif Nat.beq n 0 then none else some (.pointer (some ⟨b, off + f.offset, none⟩))
      | none => none
    | none => none
  | _, _ => none
theorem fieldAddr_sim {s : TypeId} {x x' v : Value} {k : Nat} (hx : VRel μ x x') (hi : ifieldAddr P s x k = some v) : ∃ v', (Instr.fieldAt s x' k).run P W = .ok v' W ∧ VRel μ v v' := by
  unfold ifieldAddr at hi
  split at hi
  · rename_i fields b off hu
    cases hx with
    | ptr _ _ T hm =>
      split at hi
      · rename_i f hf
        split at hi
        · rename_i n hn
          cases hz : Nat.beq n 0
          · simp only [hz, cond_false, Option.some.injEq] at hi
            subst hi
            have hnz : ¬ n = 0 := by intro e1; rw [e1] at hz; cases hz
            have hf' : fields[k]? = some f := by rw [← Array.getElem?_toList]; exact hf
            refine ⟨_, ?_, VRel.ptr b (off + f.offset) T hm⟩
            simp [Instr.fieldAt, run_underlying hu, hf', Instr.sureAddr, fieldPlace, run_sizeOf' hn, hnz, add_eq, Nat.add_assoc]
          · simp [hz] at hi
        · cases hi
      · cases hi
  · cases hi

def natOf : Value → Option Nat
  | .int _ (.ofNat k) => some k
  | _ => none
def iindexAddr (P : Program) (t : TypeId) (x ix : Value) : Option Value :=
  match natOf ix, P.underlying t, x with
  | some k, some (.array n e), .pointer (some ⟨b, off, none⟩) =>
    match sizeT P e with
    | some sz => bif Nat.blt k n then some (.pointer (some ⟨b, off + k * sz, none⟩)) else none
    | none => none
  | some k, some (.slice e), .slice (some ⟨b, off, none⟩) n _ =>
    match sizeT P e with
    | some sz => bif Nat.blt k n then some (.pointer (some ⟨b, off + k * sz, none⟩)) else none
    | none => none
  | _, _, _ => none
theorem natOf_eq {v : Value} {k : Nat} (h : natOf v = some k) : ∃ kd, v = .int kd (Int.ofNat k) := by
  unfold natOf at h
  split at h
  · cases h; exact ⟨_, rfl⟩
  · cases h
theorem indexAddr_sim {t : TypeId} {x x' ix ix' v : Value} (hx : VRel μ x x') (hix : VRel μ ix ix') (hi : iindexAddr P t x ix = some v) : ∃ v', (Instr.indexAt t x' ix').run P W = .ok v' W ∧ VRel μ v v' := by
  unfold iindexAddr at hi
  split at hi
  · rename_i k n e b off hk hu
    obtain ⟨kd, rfl⟩ := natOf_eq hk
    cases hix
    cases hx with
    | ptr _ _ T hm =>
      split at hi
      · rename_i sz hsz
        cases hlt : Nat.blt k n
        · simp [hlt] at hi
        · simp only [hlt, cond_true, Option.some.injEq] at hi
          subst hi
          have hlt : k < n := Nat.le_of_ble_eq_true hlt
          refine ⟨_, ?_, VRel.ptr b (off + k * sz) T hm⟩
          have hc : (0 : Int) ≤ Int.ofNat k ∧ Int.ofNat k < (n : Int) := ⟨by simp, by have := Int.ofNat_lt.2 hlt; simpa using this⟩
          simp only [Instr.indexAt, asIntOf, Sem.run_bind, Sem.run_pure, Result.andThen_ok, run_underlying hu, Instr.sureAddr, if_pos hc, run_sizeOf' hsz, add_eq]
          simp [Nat.add_assoc]
      · cases hi
  · rename_i k e b off n c hk hu
    obtain ⟨kd, rfl⟩ := natOf_eq hk
    cases hix
    cases hx with
    | slice _ _ _ _ cap' o' T hm hcr ho =>
      split at hi
      · rename_i sz hsz
        cases hlt : Nat.blt k n
        · simp [hlt] at hi
        · simp only [hlt, cond_true, Option.some.injEq] at hi
          subst hi
          have hlt : k < n := Nat.le_of_ble_eq_true hlt
          have hoo : o' = T.d + off := by
            rcases ho with ho | ⟨h1, _⟩
            · exact ho
            · omega
          subst hoo
          refine ⟨_, ?_, VRel.ptr b (off + k * sz) T hm⟩
          have hc : (0 : Int) ≤ Int.ofNat k ∧ Int.ofNat k < (n : Int) := ⟨by simp, by have := Int.ofNat_lt.2 hlt; simpa using this⟩
          simp only [Instr.indexAt, asIntOf, Sem.run_bind, Sem.run_pure, Result.andThen_ok, run_underlying hu, if_pos hc, run_sizeOf' hsz, add_eq]
          simp [Nat.add_assoc]
      · cases hi
  · cases hi

def ipart (P : Program) (t : TypeId) (cs : List Value) (off : Nat) : Option Value :=
  match P.underlying t, sizeT P t with
  | some d, some n =>
    bif isAggD d then some (.agg ⟨(cs.drop off).take n⟩) else cs[off]?
  | _, _ => none
theorem part_sim {t : TypeId} {cs : List Value} {cs' : Array Value} {off : Nat} {v : Value} (hc : LRel μ cs cs'.toList) (hi : ipart P t cs off = some v) : ∃ v', (part t cs' off).run P W = .ok v' W ∧ VRel μ v v' := by
  unfold ipart at hi
  split at hi
  · rename_i d n hd hn
    cases hagg : isAggD d
    · simp only [hagg, cond_false] at hi
      obtain ⟨v', h1, h2⟩ := hc.get? hi
      refine ⟨v', ?_, h2⟩
      rw [Array.getElem?_toList] at h1
      simp [part, run_isAgg' hd, hagg, h1]
    · simp only [hagg, cond_true, Option.some.injEq] at hi
      subst hi
      refine ⟨.agg (cs'.extract off (off + n)), ?_, VRel.agg_iff.2 ⟨_, rfl, ?_⟩⟩
      · simp [part, run_isAgg' hd, hagg, run_sizeOf' hn]
      · rw [Array.toList_extract, List.extract_eq_take_drop]
        have : off + n - off = n := by omega
        rw [this]
        exact (hc.drop off).take n
  · cases hi
def ifield (P : Program) (t : TypeId) (x : Value) (k : Nat) : Option Value :=
  match P.underlying t, x with
  | some (.struct fields), .agg cs => match fields.toList[k]? with
    | some f => ipart P f.type cs.toList f.offset
    | none => none
  | _, _ => none
theorem field_sim {t : TypeId} {x x' v : Value} {k : Nat} (hx : VRel μ x x') (hi : ifield P t x k = some v) : ∃ v', (Instr.field t x' k).run P W = .ok v' W ∧ VRel μ v v' := by
  unfold ifield at hi
  split at hi
  · rename_i fields cs hu
    obtain ⟨cs', rfl, hl⟩ := VRel.agg_iff.1 hx
    split at hi
    · rename_i f hf
      have hf' : fields[k]? = some f := by rw [← Array.getElem?_toList]; exact hf
      obtain ⟨v', h1, h2⟩ := part_sim (P := P) (W := W) hl hi
      refine ⟨v', ?_, h2⟩
      simp [Instr.field, run_underlying hu, hf', asAgg, h1]
    · cases hi
  · cases hi
def iindex (P : Program) (t : TypeId) (x ix : Value) : Option Value :=
  match natOf ix, P.underlying t, x with
  | some k, some (.array n e), .agg cs =>
    match sizeT P e with
    | some sz => bif Nat.blt k n then ipart P e cs.toList (k * sz) else none
    | none => none
  | some k, some .string, .string s =>
    match s.data.toList[k]? with
    | some b => some (.int .u8 b.toNat)
    | none => none
  | _, _, _ => none
theorem index_sim {t : TypeId} {x x' ix ix' v : Value} (hx : VRel μ x x') (hix : VRel μ ix ix') (hi : iindex P t x ix = some v) : ∃ v', (Instr.index t x' ix').run P W = .ok v' W ∧ VRel μ v v' := by
  unfold iindex at hi
  split at hi
  · rename_i k n e cs hk hu
    obtain ⟨kd, rfl⟩ := natOf_eq hk
    cases hix
    obtain ⟨cs', rfl, hl⟩ := VRel.agg_iff.1 hx
    split at hi
    · rename_i sz hsz
      cases hlt : Nat.blt k n
      · simp [hlt] at hi
      · simp only [hlt, cond_true] at hi
        have hlt : k < n := Nat.le_of_ble_eq_true hlt
        obtain ⟨v', h1, h2⟩ := part_sim (P := P) (W := W) hl hi
        refine ⟨v', ?_, h2⟩
        have hc : (0 : Int) ≤ Int.ofNat k ∧ Int.ofNat k < (n : Int) := ⟨by simp, by have := Int.ofNat_lt.2 hlt; simpa using this⟩
        simp only [Instr.index, asIntOf, Sem.run_bind, Sem.run_pure, Result.andThen_ok, run_underlying hu, if_pos hc, run_sizeOf' hsz]
        exact h1
    · cases hi
  · rename_i k s hk hu
    obtain ⟨kd, rfl⟩ := natOf_eq hk
    cases hix; cases hx
    split at hi
    · rename_i b hb
      cases hi
      refine ⟨_, ?_, .int _ _⟩
      rw [Array.getElem?_toList] at hb
      have hlt : k < s.size := by
        have := (Array.getElem?_eq_some_iff.1 hb).1
        exact this
      have hb' : s[k]? = some b := by
        rw [getElem?_pos s k hlt]
        have := (Array.getElem?_eq_some_iff.1 hb).2
        rw [← this]; rfl
      simp [Instr.index, asIntOf, run_underlying hu, hb']
    · cases hi
  · cases hi

end
end Go.Ideal

namespace Go.Ideal
section
variable {P : Program} {base : Env} {W0 : World} {μ : Inj} {H : IHeap} {W : World}

def byteOfV : Value → Option Int
  | .int .u8 n => some n
  | _ => none
def bytesOfL : List Value → Option (List Int)
  | [] => some []
  | v :: r => match byteOfV v, bytesOfL r with
    | some n, some l => some (n :: l)
    | _, _ => none
theorem bytesOfL_eq : ∀ (l : List Value) (ns : List Int), bytesOfL l = some ns → l = ns.map (Value.int .u8)
  | [], ns, h => by simp [bytesOfL] at h; subst h; rfl
  | v :: r, ns, h => by
    simp only [bytesOfL] at h
    cases hv : byteOfV v with
    | none => simp [hv] at h
    | some n =>
      cases hr : bytesOfL r with
      | none => simp [hv, hr] at h
      | some l =>
        simp only [hv, hr, Option.some.injEq] at h
        subst h
        have : v = .int .u8 n := by
          unfold byteOfV at hv
          split at hv
          · cases hv; rfl
          · cases hv
        rw [this, bytesOfL_eq r l hr]; rfl
theorem ints_rel : ∀ (ns : List Int) (l' : List Value), LRel μ (ns.map (Value.int .u8)) l' → l' = ns.map (Value.int .u8)
  | [], l', h => by cases h; rfl
  | n :: ns, l', h => by
    simp only [List.map_cons] at h ⊢
    cases h with
    | cons hv ht => cases hv; rw [ints_rel ns _ ht]
theorem foldl_push : ∀ (ns : List Int) (r : ByteArray), ns.foldl (fun r n => r.push (UInt8.ofNat n.toNat)) r = ⟨⟨r.data.toList ++ ns.map fun n => UInt8.ofNat n.toNat⟩⟩
  | [], r => by simp
  | n :: ns, r => by
    rw [List.foldl_cons, foldl_push ns]
    simp [ByteArray.push, Array.push]

noncomputable def iconvert (P : Program) (src dst : TypeId) (x : Value) (H : IHeap) : Option (Value × IHeap) :=
  match P.underlying src, P.underlying dst, x with
  | some (.slice e), some .string, .slice a n c =>
    match P.underlying e with
    | some (.int .u8) =>
      match a with
      | none => some (.string ⟨⟨[]⟩⟩, H)
      | some _ =>
        match isrc 1 (.slice a n c) H with
        | some (_, l) => match bytesOfL l with
          | some ns => some (.string ⟨⟨ns.map fun n => UInt8.ofNat n.toNat⟩⟩, H)
          | none => none
        | none => none
    | _ => none
  | some .string, some (.slice e), .string s =>
    match P.underlying e with
    | some (.int .u8) => some (.slice (some ⟨H.next, 0, none⟩) s.size (capU + s.size), H.alloc (.cells (s.data.toList.map fun b => .int .u8 b.toNat) 1 false))
    | _ => none
  | _, _, _ => none

def bytesArr (s : ByteArray) (cap : Nat) : Array Value := (s.data.map fun b => Value.int .u8 b.toNat) ++ Array.replicate (cap - s.size) (Value.int .u8 0)
theorem bytesArr_size {s : ByteArray} {cap : Nat} (h : s.size ≤ cap) : (bytesArr s cap).size = cap := by
  have : s.data.size = s.size := rfl
  simp [bytesArr]
  omega

theorem convert_sim (h : HRel base W0 μ H W) {src dst : TypeId} {x x' v : Value} {H' : IHeap} (hx : VRel μ x x') (hi : iconvert P src dst x H = some (v, H')) :
    ∃ μ' v' W', (convert src dst x').run P W = .ok v' W' ∧ HRel base W0 μ' H' W' ∧ VRel μ' v v' ∧ Evolve μ H μ' H' := by
  unfold iconvert at hi
  split at hi
  · rename_i e a n c hu1 hu2
    split at hi
    · rename_i hue
      split at hi
      · cases hi
        cases hx
        refine ⟨μ, _, W, ?_, h, .string _, Evolve.refl _ _⟩
        simp [convert, run_underlying hu1, run_underlying hu2, run_underlying hue, Conv.bytesToString]
        rfl
      · rename_i a0
        split at hi
        · rename_i m l hs
          split at hi
          · rename_i ns hns
            cases hi
            have hl := bytesOfL_eq l ns hns
            obtain ⟨hlen, hll, l', r1, r2⟩ := src_sim (P := P) h hx hs (Nat.le_refl m)
            rw [List.take_of_length_le (by omega), hl] at r1
            have hl' := ints_rel ns l' r1
            subst hl'
            cases hx with
            | vslice => simp [isrc] at hs
            | vnil => simp [isrc] at hs
            | slice b o _ _ cap' o' T hm hcr ho =>
              have hmn : n = m := by simpa [Builtin.lenOf] using hlen
              subst hmn
              simp only [Builtin.firstCells, Nat.mul_one] at r2
              refine ⟨μ, _, W, ?_, h, .string _, Evolve.refl _ _⟩
              have := run_bytesToString (P := P) W ⟨T.c, o', none⟩ n cap' ns r2
              rw [foldl_push] at this
              simp [convert, run_underlying hu1, run_underlying hu2, run_underlying hue, this]
          · cases hi
        · cases hi
    · cases hi
  · rename_i e s hu1 hu2
    split at hi
    · rename_i hue
      cases hi
      cases hx
      -- the new block
      have hcut : ∃ cap, s.size ≤ cap ∧ (convert src dst (.string s)).run P W = .ok (.slice (some ⟨W.heap.size, 0, none⟩) s.size cap)
          (W.drew.alloc (.cells (bytesArr s cap) e (cap, cap + 1))) := by
        refine ⟨(Question.appendCap s.size 0 e).cut (W.tape W.drawn (.appendCap s.size 0 e)), by simp [Question.cut], ?_⟩
        generalize hq : (Question.appendCap s.size 0 e).cut (W.tape W.drawn (.appendCap s.size 0 e)) = cap
        have hge : s.size ≤ cap := by rw [← hq]; simp [Question.cut]
        have hsize := bytesArr_size hge
        have hf : Question.forced (.appendCap s.size 0 e) = false := rfl
        have hsh : (W.drew.alloc (.cells (bytesArr s cap) e)).shape? W.heap.size = some (e, cap) := by
          unfold World.shape?
          have : (W.drew.alloc (.cells (bytesArr s cap) e)).heap[W.heap.size]? = some (.cells (bytesArr s cap) e) := by
            show (W.heap.push _)[W.heap.size]? = _
            simp
          rw [this]
          simp only [hsize]
        have hfr : (W.drew.alloc (.cells (bytesArr s cap) e)).freeze { block := W.heap.size, off := cap } 1 =
            W.drew.alloc (.cells (bytesArr s cap) e (cap, cap + 1)) := by
          unfold World.freeze
          rw [if_neg (by decide)]
          show World.mk ((W.heap.push _).modify W.heap.size _) _ _ _ _ = World.mk (W.heap.push _) _ _ _ _
          congr 1
          apply Array.ext_getElem?
          intro j
          rw [Array.getElem?_modify, Array.getElem?_push, Array.getElem?_push]
          by_cases hj : W.heap.size = j
          · subst hj; simp
          · simp [hj, Ne.symm hj]
        simp only [convert, run_underlying hu1, run_underlying hu2, run_underlying hue, Sem.run_bind, Result.andThen_ok, Conv.stringToBytes, run_choose, hf, hq, newRow, run_newObj, Sem.run_pure, markStringish, run_shape, Bool.false_eq_true, if_false, World.drew_eq, World.alloc_eq]
        rw [show (W.drew.heap.size) = W.heap.size from rfl]
        have hsh' := hsh
        unfold bytesArr at hsh' hfr
        rw [hsh']
        simp only [run_freeze, Result.andThen_ok]
        rw [hfr]
        rfl
      obtain ⟨cap, hge, hrun⟩ := hcut
      have hal := (h.drawn (W.drawn + 1)).alloc (T := ⟨W.heap.size, 0, cap, 1⟩) (o := .cells (s.data.toList.map fun b => .int .u8 b.toNat) 1 false) (o' := .cells (bytesArr s cap) e (cap, cap + 1)) rfl ?_
      · exact ⟨_, _, _, hrun, hal.1, slice_new _ _ rfl _ _ _ (.inr ⟨by omega, by omega, hge, by show 0 + cap * 1 ≤ cap; omega, .inl rfl⟩), hal.2⟩
      · have hsz : s.data.size = s.size := rfl
        refine .cells ⟨W.heap.size, 0, cap, 1⟩ _ _ false _ e cap (cap + 1) rfl ?_ ?_ ?_
        · simp only [bytesArr, List.drop_zero, Array.toList_append, Array.toList_map, List.length_map, Array.length_toList]
          rw [List.take_append_of_le_length (by simp), List.take_of_length_le (by simp)]
          exact LRel.map _ _ _ fun b _ => .int _ _
        · rw [bytesArr_size hge]; show cap = 0 + cap; omega
        · intro _ j hj
          rw [bytesArr_size hge] at hj
          omega
    · cases hi
  · cases hi

noncomputable def irange (P : Program) (t : TypeId) (x : Value) (H : IHeap) : Option (Value × IHeap) :=
  match P.underlying t, x with
  | some .string, .string s => some (.pointer (some ⟨H.next, 0, none⟩), H.alloc (.strIter s 0))
  | _, _ => none
theorem range_sim (h : HRel base W0 μ H W) {t : TypeId} {x x' v : Value} {H' : IHeap} (hx : VRel μ x x') (hi : irange P t x H = some (v, H')) :
    ∃ μ' v' W', (Instr.range t x').run P W = .ok v' W' ∧ HRel base W0 μ' H' W' ∧ VRel μ' v v' ∧ Evolve μ H μ' H' := by
  unfold irange at hi
  split at hi
  · rename_i s hu
    cases hi; cases hx
    have hal := h.alloc (T := ⟨W.heap.size, 0, 0, 0⟩) (o := .strIter s 0) (o' := .stringIter s 0) rfl (.strIter _ s 0 rfl)
    exact ⟨_, _, _, by simp [Instr.range, run_underlying hu], hal.1, ptr_new ⟨W.heap.size, 0, 0, 0⟩ _ rfl, hal.2⟩
  · cases hi

noncomputable def inext (it : Value) (isString : Bool) (H : IHeap) : Option (Value × IHeap) :=
  match it, isString with
  | .pointer (some ⟨r, 0, none⟩), true =>
    match H.get r with
    | some (.strIter s pos) =>
      bif Nat.blt pos s.size then
        match Utf8.decode s pos with
        | (c, width) => some (.tuple ⟨[.bool true, .int .i64 (Int.ofNat pos), .int .i32 c]⟩, H.put r (.strIter s (pos + width)))
      else some (.tuple ⟨[.bool false]⟩, H)
    | _ => none
  | _, _ => none

theorem run_getObj' {w : World} {r : Nat} {o : Obj} (h : w.heap[r]? = some o) (hn : ∀ c t f, o ≠ .cells c t f) : (getObj r).run P w = .ok o w := by
  cases o with
  | cells c t f => exact absurd rfl (hn c t f)
  | _ => simp only [getObj, Sem.run, h]
theorem run_setObj' {w : World} {r : Nat} {o o1 : Obj} (h : w.heap[r]? = some o) (hn : ∀ c t f, o ≠ .cells c t f) : (setObj r o1).run P w = .ok () { w with heap := w.heap.setIfInBounds r o1 } := by
  cases o with
  | cells c t f => exact absurd rfl (hn c t f)
  | _ => simp only [setObj, Sem.run, h]

theorem HRel.setObj (h : HRel base W0 μ H W) {b : Nat} {T : Tgt} {o o1 : IObj} {o1' : Obj} (hb : H.get b = some o) (hro : o.ro = false) (hm : μ b = some T) (ho : ORel μ T o1 o1') (hna1 : o1.isAbs = false := by rfl) (hsol : ¬ o.void T := by exact id) :
    HRel base W0 μ (H.put b o1) { W with heap := W.heap.setIfInBounds T.c o1' } ∧ Evolve μ H μ (H.put b o1) := by
  have hlt := h.bound b T hm
  refine h.update hb hro hm (by simp) (fun i hi => ?_) ?_ ho rfl rfl hna1 hsol
  · rw [Array.getElem?_setIfInBounds, if_neg (Ne.symm hi)]
  · rw [Array.getElem?_setIfInBounds]; simp [hlt]

theorem next_sim (h : HRel base W0 μ H W) {it it' v : Value} {isString : Bool} {ty : TypeId} {H' : IHeap} (hx : VRel μ it it') (hi : inext it isString H = some (v, H')) :
    ∃ v' W', (Instr.next it' isString ty).run P W = .ok v' W' ∧ HRel base W0 μ H' W' ∧ VRel μ v v' ∧ Evolve μ H μ H' := by
  unfold inext at hi
  split at hi
  · rename_i r
    cases hx with
    | ptr _ _ T hm =>
      split at hi
      · rename_i s pos hget
        obtain ⟨o', ho', hor⟩ := h.obj r _ hget T hm
        cases hor with
        | strIter _ _ hd0 =>
          have hg := run_getObj' (P := P) ho' (by intro c t f; simp)
          rw [hd0]
          cases hlt : Nat.blt pos s.size
          · simp only [hlt, cond_false, Option.some.injEq, Prod.mk.injEq] at hi
            obtain ⟨rfl, rfl⟩ := hi
            have hnl : ¬ pos < s.size := fun hh => by rw [show Nat.blt pos s.size = true from Nat.ble_eq_true_of_le hh] at hlt; cases hlt
            exact ⟨_, W, by simp [Instr.next, hg, hnl], h, VRel.tuple_iff.2 ⟨_, rfl, .cons (.bool _) .nil⟩, Evolve.refl _ _⟩
          · simp only [hlt, cond_true, Option.some.injEq, Prod.mk.injEq] at hi
            obtain ⟨rfl, rfl⟩ := hi
            have hlt : pos < s.size := Nat.le_of_ble_eq_true hlt
            obtain ⟨g1, g2⟩ := h.setObj (o1 := .strIter s (pos + (Utf8.decode s pos).2)) (o1' := .stringIter s (pos + (Utf8.decode s pos).2)) hget rfl hm (.strIter _ _ _ hd0)
            refine ⟨.tuple #[.bool true, goInt pos, .int .i32 (Utf8.decode s pos).1], _, ?_, g1, VRel.tuple_iff.2 ⟨_, rfl, .cons (.bool _) (.cons (.int _ _) (.cons (.int _ _) .nil))⟩, g2⟩
            simp [Instr.next, hg, hlt, run_setObj' (P := P) (o1 := .stringIter s (pos + (Utf8.decode s pos).2)) ho' (by intro c t f; simp)]
      · cases hi
  · cases hi

def nilKind : Value → Option TypeDesc → Option Bool
  | .pointer a, some (.pointer _) => some a.isNone
  | .slice none _ _, some (.slice _) => some true
  | .slice (some ⟨_, _, none⟩) _ _, some (.slice _) => some false
  | .map a, some (.map _ _) => some a.isNone
  | .nilFunc, some (.func _ _ _) => some true
  | .func _ _ _, some (.func _ _ _) => some false
  | _, _ => none
def eqNil (P : Program) (op : BinOp) (t : TypeId) (x y : Value) : Option Value :=
  match nilKind x (P.underlying t), nilKind y (P.underlying t) with
  | some a, some b =>
    bif a || b then
      match op with
      | .eql => some (.bool (a && b))
      | .neq => some (.bool (!(a && b)))
      | _ => none
    else none
  | _, _ => none
theorem nilKind_rel {x x' : Value} {d : Option TypeDesc} {b : Bool} (hx : VRel μ x x') (h : nilKind x d = some b) : nilKind x' d = some b := by
  cases d with
  | none => simp [nilKind] at h
  | some d => cases d <;> cases hx <;> first | exact h | (simp [nilKind, junk] at h; done) | (simpa [nilKind] using h)
theorem equal_nil {t : TypeId} {d : TypeDesc} {x y : Value} {a b : Bool} (hu : P.underlying t = some d) (ha : nilKind x (some d) = some a) (hb : nilKind y (some d) = some b) (hab : (a || b) = true) (w : World) :
    (Op.equal t x y).run P w = .ok (a && b) w := by
  obtain ⟨k0, hd⟩ : ∃ k0, Op.maxDepth = k0 + 1 := ⟨9999, rfl⟩
  unfold Op.equal
  rw [hd]
  clear hd
  cases d <;> cases x <;> simp [nilKind] at ha <;> cases y <;> simp [nilKind] at hb
  · rename_i e p q
    subst ha; subst hb
    cases p <;> cases q <;> simp at hab <;> simp [Op.equalIn, run_underlying hu]
  · rename_i e p _ _ q _ _
    rcases p with _ | ⟨_, _, _ | _⟩ <;> rcases q with _ | ⟨_, _, _ | _⟩ <;> simp at ha hb <;> subst ha <;> subst hb <;> simp at hab <;> simp [Op.equalIn, run_underlying hu]
  · rename_i k e p q
    subst ha; subst hb
    cases p <;> cases q <;> simp at hab <;> simp [Op.equalIn, run_underlying hu]
  all_goals (subst ha; subst hb; first | (simp at hab; done) | simp [Op.equalIn, run_underlying hu])
theorem eqNil_run {op : BinOp} {t : TypeId} {x y : Operand} {a b v : Value} (hi : eqNil P op t a b = some v) (w : World) :
    (do eqGuard op t x y a b; binOp op t a b : Sem Value).run P w = .ok v w := by
  unfold eqNil at hi
  cases hu : P.underlying t with
  | none => simp [hu, nilKind] at hi
  | some d =>
    rw [hu] at hi
    cases ha : nilKind a (some d) with
    | none => simp [ha] at hi
    | some p =>
      cases hb : nilKind b (some d) with
      | none => simp [ha, hb] at hi
      | some q =>
        simp only [ha, hb] at hi
        cases hpq : (p || q)
        · simp [hpq] at hi
        · simp only [hpq, cond_true] at hi
          have he := equal_nil hu ha hb hpq w
          have hg : eqGuard op t x y a b = pure () := by
            cases d <;> cases a <;> simp [nilKind] at ha <;> cases b <;> simp [nilKind] at hb <;> simp [eqGuard]
          have hbo : op = .eql ∨ op = .neq := by cases op <;> simp at hi <;> simp
          rw [hg]
          have hbin : ∀ r : BinOp, (r = .eql → binOp r t a b = (do pure (.bool (← Op.equal t a b)))) ∧ (r = .neq → binOp r t a b = (do pure (.bool (!(← Op.equal t a b))))) := by
            intro r
            refine ⟨?_, ?_⟩ <;> rintro rfl <;> (cases d <;> cases a <;> simp [nilKind] at ha <;> cases b <;> simp [nilKind] at hb <;> rfl)
          rcases hbo with rfl | rfl
          · simp only at hi; cases hi
            simp [(hbin .eql).1 rfl, he]
          · simp only at hi; cases hi
            simp [(hbin .neq).2 rfl, he]

end
end Go.Ideal

namespace Go.Ideal
section
variable {P : Program} {base : Env} {W0 : World} {μ : Inj} {H : IHeap} {W : World}

def keyKind : Option TypeDesc → Bool
  | some (.int _) | some .string | some .bool => true
  | _ => false
def setVal (k v : Value) : Nat → List MapEntry → List MapEntry
  | _, [] => []
  | 0, e :: r => { e with key := k, val := v } :: r
  | n + 1, e :: r => e :: setVal k v n r

noncomputable def imakeMap (x : Option Value) (H : IHeap) : Option (Value × IHeap) :=
  match x with
  | none => some (.map (some H.next), H.alloc (.map [] 0))
  | some _ => none
noncomputable def imapUpdate (P : Program) (t : TypeId) (m k v : Value) (H : IHeap) : Option IHeap :=
  match P.underlying t, m with
  | some (.map kt _), .map (some r) =>
    match H.get r with
    | some (.map es clock) =>
      match P.underlying kt with
      | some kd => bif keyKind (some kd) && flat k then
          match Instr.findNow kd k es 0 with
          | some (some (i, _)) => some (H.put r (.map (setVal k v i es) clock))
          | some none => some (H.put r (.map (es ++ [{ key := k, val := v, born := clock }]) (clock + 1)))
          | none => none
        else none
      | none => none
    | _ => none
  | _, _ => none
noncomputable def ilookup (P : Program) (t : TypeId) (m k : Value) (ok : Bool) (H : IHeap) : Option Value :=
  match P.underlying t, m with
  | some (.map kt et), .map (some r) =>
    match H.get r with
    | some (.map es _) =>
      match P.underlying kt with
      | some kd => bif keyKind (some kd) && flat k then
          match Instr.findNow kd k es 0 with
          | some (some (_, v)) => some (bif ok then .tuple ⟨[v, .bool true]⟩ else v)
          | some none => match P.info? et with
            | some i => match i.zero with
              | some z => bif flat z then some (bif ok then .tuple ⟨[z, .bool false]⟩ else z) else none
              | none => none
            | none => none
          | none => none
        else none
      | none => none
    | _ => none
  | _, _ => none

def itypeAssert (P : Program) (x : Value) (at' : TypeId) (ok : Bool) : Option Value :=
  match P.underlying at', x with
  | some (.interface _), _ => none
  | some _, .iface t v => bif Nat.beq t at' then some (bif ok then .tuple ⟨[v, .bool true]⟩ else v) else
      bif ok then match P.info? at' with
        | some i => match i.zero with
          | some z => bif flat z then some (.tuple ⟨[z, .bool false]⟩) else none
          | none => none
        | none => none
      else none
  | _, _ => none
theorem sameNow_rel {kd : TypeDesc} {k a a' : Value} (h : VRel μ a a') {b : Bool} (hs : Instr.sameNow kd k a = some b) : a' = a := by
  unfold Instr.sameNow at hs
  split at hs <;> first | (cases h; rfl) | cases hs
theorem findNow_rel {kd : TypeDesc} {k : Value} : ∀ {es es' : List MapEntry} (_ : EntsRel μ es es') (i : Nat),
    (∀ j v, Instr.findNow kd k es i = some (some (j, v)) → ∃ v', Instr.findNow kd k es' i = some (some (j, v')) ∧ VRel μ v v') ∧
    (Instr.findNow kd k es i = some none → Instr.findNow kd k es' i = some none) := by
  intro es es' h
  induction h with
  | nil => intro i; exact ⟨(fun j v h => by cases h), fun h => h⟩
  | @cons e e' l l' hk hv hb _ ih =>
    intro i
    cases hs : Instr.sameNow kd k e.key with
    | none => exact ⟨(fun j v h => by simp [Instr.findNow, hs] at h), (fun h => by simp [Instr.findNow, hs] at h)⟩
    | some b =>
      have he := sameNow_rel hk hs
      have hs' : Instr.sameNow kd k e'.key = some b := by rw [he]; exact hs
      cases b with
      | true =>
        refine ⟨fun j v h => ?_, (fun h => by simp [Instr.findNow, hs] at h)⟩
        simp only [Instr.findNow, hs, Option.some.injEq, Prod.mk.injEq] at h
        obtain ⟨rfl, rfl⟩ := h
        exact ⟨e'.val, by simp [Instr.findNow, hs'], hv⟩
      | false =>
        simp only [Instr.findNow, hs, hs']
        exact ih (i + 1)
theorem run_checkKey {t : TypeId} {kd : TypeDesc} (hu : P.underlying t = some kd) (hk : keyKind (some kd) = true) (b : Bool) (n : Nat) (v : Value) (w : World) : (Instr.checkKey b (n + 1) t v).run P w = .ok () w := by
  cases kd <;> first | (cases hk; done) | simp [Instr.checkKey, run_underlying hu]
theorem run_findKey {t : TypeId} {kd : TypeDesc} (hu : P.underlying t = some kd) {k : Value} {es : List MapEntry} {r : Option (Nat × Value)} (h : Instr.findNow kd k es 0 = some r) (w : World) : (Instr.findKey t k es).run P w = .ok r w := by
  simp [Instr.findKey, run_underlying hu, h]
theorem lookup_sim (h : HRel base W0 μ H W) {t : TypeId} {m m' k k' v : Value} {ok : Bool} (hm : VRel μ m m') (hk : VRel μ k k') (hi : ilookup P t m k ok H = some v) : ∃ v', (Instr.lookup t m' k' ok).run P W = .ok v' W ∧ VRel μ v v' := by
  unfold ilookup at hi
  split at hi
  · rename_i kt et r hu
    split at hi
    · rename_i es clock hget
      split at hi
      · rename_i kd hkd
        cases hc : (keyKind (some kd) && flat k)
        · simp only [hc, cond_false] at hi; cases hi
        · simp only [hc, cond_true] at hi
          simp only [Bool.and_eq_true] at hc
          have hke := flat_eq hc.2 hk
          subst hke
          cases hm with
          | map _ T hT =>
            obtain ⟨o', ho', hor⟩ := h.obj r _ hget T hT
            cases hor with
            | map _ es' _ he =>
              have hg : (getObj T.c).run P W = .ok (.map es' clock) W := run_getObj' ho' (by intro c t f; simp)
              have hck : ∀ b, (Instr.checkKey b 10000 kt k').run P W = .ok () W := fun b => run_checkKey hkd hc.1 b 9999 k' W
              split at hi
              · rename_i i v0 hf
                obtain ⟨v', e1, e2⟩ := (findNow_rel he 0).1 _ _ hf
                cases hi
                cases ok with
                | true => exact ⟨.tuple #[v', .bool true], by simp [Instr.lookup, run_underlying hu, hg, hck, run_findKey hkd e1], VRel.tuple_iff.2 ⟨_, rfl, .cons e2 (.cons (.bool _) .nil)⟩⟩
                | false => exact ⟨v', by simp [Instr.lookup, run_underlying hu, hg, hck, run_findKey hkd e1], e2⟩
              · rename_i hf
                have e1 := (findNow_rel he 0).2 hf
                split at hi
                · rename_i ie hie
                  split at hi
                  · rename_i z hz
                    cases hfz : flat z
                    · simp [hfz] at hi
                    · simp only [hfz, cond_true, Option.some.injEq] at hi
                      subst hi
                      cases ok with
                      | true => exact ⟨.tuple #[z, .bool false], by simp [Instr.lookup, run_underlying hu, hg, hck, run_findKey hkd e1, zeroValue, typeInfo, hie, hz], VRel.tuple_iff.2 ⟨_, rfl, .cons (flat_refl hfz) (.cons (.bool _) .nil)⟩⟩
                      | false => exact ⟨z, by simp [Instr.lookup, run_underlying hu, hg, hck, run_findKey hkd e1, zeroValue, typeInfo, hie, hz], flat_refl hfz⟩
                  · cases hi
                · cases hi
              · cases hi
      · cases hi
    · cases hi
  · cases hi

theorem setVal_rel {k v k' v' : Value} (hk : VRel μ k k') (hv : VRel μ v v') : ∀ {es es' : List MapEntry} (_ : EntsRel μ es es') (i : Nat), EntsRel μ (setVal k v i es) (setVal k' v' i es') := by
  intro es es' h
  induction h with
  | nil => intro i; cases i <;> exact .nil
  | cons h1 h2 h3 ht ih =>
    intro i
    cases i with
    | zero => exact .cons hk hv h3 ht
    | succ i => exact .cons h1 h2 h3 (ih i)
theorem setVal_modify (k v : Value) : ∀ (es : List MapEntry) (i : Nat), es.modify i (fun e => { e with key := k, val := v }) = setVal k v i es
  | [], i => by cases i <;> rfl
  | e :: r, 0 => rfl
  | e :: r, i + 1 => by simp only [setVal, List.modify_succ_cons, setVal_modify k v r i]
theorem EntsRel.snoc {es es' : List MapEntry} (h : EntsRel μ es es') {e e' : MapEntry} (hk : VRel μ e.key e'.key) (hv : VRel μ e.val e'.val) (hb : e.born = e'.born) : EntsRel μ (es ++ [e]) (es' ++ [e']) := by
  induction h with
  | nil => exact .cons hk hv hb .nil
  | cons h1 h2 h3 _ ih => exact .cons h1 h2 h3 ih
theorem ba_eq {a b : ByteArray} (h : (a == b) = true) : a = b := by
  obtain ⟨a⟩ := a; obtain ⟨b⟩ := b
  have : (a == b) = true := h
  rw [eq_of_beq this]
theorem ba_refl (a : ByteArray) : (a == a) = true := by
  obtain ⟨a⟩ := a
  show (a == a) = true
  exact beq_self_eq_true a
theorem findNow_key {kd : TypeDesc} (hkk : keyKind (some kd) = true) {k : Value} : ∀ {es : List MapEntry} {i j : Nat} {v : Value}, Instr.findNow kd k es i = some (some (j, v)) → ∃ e, es[j - i]? = some e ∧ i ≤ j ∧ Instr.sameBits 10000 e.key k = true := by
  intro es
  induction es with
  | nil => intro i j v h; cases h
  | cons e es ih =>
    intro i j v h
    cases hs : Instr.sameNow kd k e.key with
    | none => simp [Instr.findNow, hs] at h
    | some b =>
      cases b with
      | true =>
        simp only [Instr.findNow, hs, Option.some.injEq, Prod.mk.injEq] at h
        obtain ⟨rfl, rfl⟩ := h
        refine ⟨e, by simp, Nat.le_refl _, ?_⟩
        unfold Instr.sameNow at hs
        split at hs
        · rename_i a b' heq
          split at hs
          · rename_i hkk2
            simp only [Option.some.injEq] at hs
            simp only [heq]
            simp [Instr.sameBits, hkk2, eq_of_beq hs]
          · cases hs
        · rename_i heq
          simp only [Option.some.injEq] at hs
          simp only [heq]
          simp only [Instr.sameBits, ba_eq hs, ba_refl]
        · rename_i heq
          simp only [Option.some.injEq] at hs
          simp only [heq]
          simp [Instr.sameBits, eq_of_beq hs]
        · cases hs
      | false =>
        simp only [Instr.findNow, hs] at h
        obtain ⟨e2, h1, h2, h3⟩ := ih h
        refine ⟨e2, ?_, by omega, h3⟩
        rw [show j - i = (j - (i + 1)) + 1 by omega]; simpa using h1
theorem mapUpdate_sim (h : HRel base W0 μ H W) {t : TypeId} {m m' k k' v v' : Value} {H' : IHeap} (hm : VRel μ m m') (hk : VRel μ k k') (hv : VRel μ v v') (hi : imapUpdate P t m k v H = some H') :
    ∃ W', (Instr.mapUpdate t m' k' v').run P W = .ok () W' ∧ HRel base W0 μ H' W' ∧ Evolve μ H μ H' := by
  unfold imapUpdate at hi
  split at hi
  · rename_i kt et r hu
    split at hi
    · rename_i es clock hget
      split at hi
      · rename_i kd hkd
        cases hc : (keyKind (some kd) && flat k)
        · simp only [hc, cond_false] at hi; cases hi
        · simp only [hc, cond_true] at hi
          simp only [Bool.and_eq_true] at hc
          have hke := flat_eq hc.2 hk
          subst hke
          cases hm with
          | map _ T hT =>
            obtain ⟨o', ho', hor⟩ := h.obj r _ hget T hT
            cases hor with
            | map _ es' _ he =>
              have hg : (getObj T.c).run P W = .ok (.map es' clock) W := run_getObj' ho' (by intro c t f; simp)
              have hck : ∀ b, (Instr.checkKey b 10000 kt k').run P W = .ok () W := fun b => run_checkKey hkd hc.1 b 9999 k' W
              split at hi
              · rename_i i v0 hf
                obtain ⟨v1, e1, e2⟩ := (findNow_rel he 0).1 _ _ hf
                cases hi
                obtain ⟨ent, h1, _, h3⟩ := findNow_key hc.1 e1
                have hent : es'[i]? = some ent := by rw [← Array.getElem?_toList]; simpa using h1
                obtain ⟨g1, g2⟩ := h.setObj (o1 := .map (setVal k' v i es) clock) (o1' := .map (es'.modify i fun e => { e with key := k', val := v' }) clock) hget rfl hT (.map T _ _ clock (by
                  rw [Array.toList_modify, setVal_modify]; exact setVal_rel hk hv he i))
                refine ⟨_, ?_, g1, g2⟩
                simp [Instr.mapUpdate, run_underlying hu, hg, hck, run_findKey hkd e1, hent, Instr.keyThatStays, h3, run_setObj' (P := P) ho' (by intro c t f; simp)]
              · rename_i hf
                have e1 := (findNow_rel he 0).2 hf
                cases hi
                obtain ⟨g1, g2⟩ := h.setObj (o1 := .map (es ++ [{ key := k', val := v, born := clock }]) (clock + 1)) (o1' := .map (es'.push { key := k', val := v', born := clock }) (clock + 1)) hget rfl hT (.map T _ _ (clock + 1) (by
                  rw [Array.toList_push]; exact he.snoc hk hv rfl))
                refine ⟨_, ?_, g1, g2⟩
                simp [Instr.mapUpdate, run_underlying hu, hg, hck, run_findKey hkd e1, run_setObj' (P := P) ho' (by intro c t f; simp)]
              · cases hi
      · cases hi
    · cases hi
  · cases hi
theorem typeAssert_sim {x x' v : Value} {xt at' : TypeId} {ok : Bool} (hx : VRel μ x x') (hi : itypeAssert P x at' ok = some v) : ∃ v', (Instr.typeAssert x' xt at' ok).run P W = .ok v' W ∧ VRel μ v v' := by
  unfold itypeAssert at hi
  split at hi
  · cases hi
  · rename_i d t0 v0 hni hu
    have hne : ∀ ms, d ≠ .interface ms := fun ms e => hni ms e
    cases hx with
    | iface _ _ v1 hv =>
      cases hb : Nat.beq t0 at'
      · simp only [hb, cond_false] at hi
        have hn : ¬ t0 = at' := by intro e; subst e; rw [Nat.beq_refl] at hb; cases hb
        cases ok with
        | false => cases hi
        | true =>
          simp only [cond_true] at hi
          split at hi
          · rename_i i hie
            split at hi
            · rename_i z hz
              cases hf : flat z
              · simp [hf] at hi
              · simp only [hf, cond_true, Option.some.injEq] at hi
                subst hi
                refine ⟨.tuple #[z, .bool false], ?_, VRel.tuple_iff.2 ⟨_, rfl, .cons (flat_refl hf) (.cons (.bool _) .nil)⟩⟩
                cases d <;> first | exact absurd rfl (hne _) | simp [Instr.typeAssert, run_underlying hu, hn, zeroValue, typeInfo, hie, hz]
            · cases hi
          · cases hi
      · simp only [hb, cond_true, Option.some.injEq] at hi
        have he := Nat.eq_of_beq_eq_true hb
        subst he
        subst hi
        cases ok with
        | true =>
          refine ⟨.tuple #[v1, .bool true], ?_, VRel.tuple_iff.2 ⟨_, rfl, .cons hv (.cons (.bool _) .nil)⟩⟩
          cases d <;> first | exact absurd rfl (hne _) | simp [Instr.typeAssert, run_underlying hu]
        | false =>
          refine ⟨v1, ?_, hv⟩
          cases d <;> first | exact absurd rfl (hne _) | simp [Instr.typeAssert, run_underlying hu]
  · cases hi
end
end Go.Ideal
