/-
  Part of the proof: the machine that runs a program by fixed orders, and that each of its runs is a run of the model; or a run of it in parts. No conditions.
-/
import Derived.Test.YtjaogllgillaiaaGreatDoorAbsTy
import Derived.Laws.Cells
import Derived.Laws.IdiomCopy
import Derived.Laws.BytesString
namespace Go.Ideal

/-- Where an ideal block lies: in block 'c', from its cell 'd' on, 'r' cells up to that block's end; its elements have 'e' cells. -/
structure Tgt where
  c : Nat
  d : Nat
  r : Nat
  e : Nat
abbrev Inj := Nat → Option Tgt
def Inj.le (μ ν : Inj) : Prop := ∀ b x, μ b = some x → ν b = some x
theorem Inj.le_refl (μ : Inj) : μ.le μ := fun _ _ h => h
theorem Inj.le_trans {μ ν ξ : Inj} (h : μ.le ν) (h' : ν.le ξ) : μ.le ξ := fun b x e => h' b x (h b x e)
def Inj.ext (μ : Inj) (b : Nat) (x : Tgt) : Inj := fun i => if i = b then some x else μ i
theorem Inj.le_ext {μ : Inj} {b : Nat} (x : Tgt) (h : μ b = none) : μ.le (μ.ext b x) := by
  intro i y e
  unfold Inj.ext
  by_cases hi : i = b
  · subst hi; rw [h] at e; cases e
  · rw [if_neg hi]; exact e
theorem Inj.ext_same (μ : Inj) (b : Nat) (x : Tgt) : μ.ext b x b = some x := by simp [Inj.ext]
theorem Inj.ext_ne (μ : Inj) {b i : Nat} (x : Tgt) (h : i ≠ b) : μ.ext b x i = μ i := by simp [Inj.ext, h]

def capU : Nat := 18446744073709551616
attribute [irreducible] capU
def CapRel (T : Tgt) (o len cap cap' : Nat) : Prop := (cap < capU ∧ cap' = cap) ∨ (capU ≤ cap ∧ cap - capU ≤ cap' ∧ len ≤ cap' ∧ o + cap' * T.e ≤ T.r ∧ (T.e = 1 ∨ cap' ≤ 9223372036854775807))
def junk : Value := .chan (some 0)

inductive FnRel (μ : Inj) : Fn → Fn → Prop where
  | func (f : FuncId) : FnRel μ (.func f) (.func f)
  | method (n : String) : FnRel μ (.method n) (.method n)
  | methodOf (t : TypeId) (n : String) : FnRel μ (.methodOf t n) (.methodOf t n)
  | via (t : TypeId) (p : Array FieldStep) (f : FuncId) (b : Bool) : FnRel μ (.via t p f b) (.via t p f b)
  | yield (l : Nat) (T : Tgt) (h : μ l = some T) : FnRel μ (.yield l) (.yield T.c)

inductive VRel (μ : Inj) : Value → Value → Prop where
  | junk (v : Value) : VRel μ Ideal.junk v
  | bool (b : Bool) : VRel μ (.bool b) (.bool b)
  | int (k : IntKind) (n : Int) : VRel μ (.int k n) (.int k n)
  | float (k : FloatKind) (n : Nat) : VRel μ (.float k n) (.float k n)
  | string (s : ByteArray) : VRel μ (.string s) (.string s)
  | nilptr : VRel μ (.pointer none) (.pointer none)
  | ptr (b o : Nat) (T : Tgt) (h : μ b = some T) : VRel μ (.pointer (some ⟨b, o, none⟩)) (.pointer (some ⟨T.c, T.d + o, none⟩))
  | nilslice (len cap : Nat) : VRel μ (.slice none len cap) (.slice none len cap)
  | slice (b o len cap cap' o' : Nat) (T : Tgt) (h : μ b = some T) (hc : CapRel T o len cap cap') (ho : o' = T.d + o ∨ (len = 0 ∧ cap' = 0)) :
      VRel μ (.slice (some ⟨b, o, none⟩) len cap) (.slice (some ⟨T.c, o', none⟩) len cap')
  | vptr (b o i : Nat) (T : Tgt) (h : μ b = some T) : VRel μ (.pointer (some ⟨b, o, some i⟩)) (.pointer (some ⟨T.c, T.d + (i * T.e + o), none⟩))
  | vslice (b i len cap cap' o' : Nat) (T : Tgt) (h : μ b = some T) (hc : CapRel T (i * T.e) len cap cap') (ho : o' = T.d + i * T.e ∨ (len = 0 ∧ cap' = 0)) :
      VRel μ (.slice (some ⟨b, 0, some i⟩) len cap) (.slice (some ⟨T.c, o', none⟩) len cap')
  | nilmap : VRel μ (.map none) (.map none)
  | map (b : Nat) (T : Tgt) (h : μ b = some T) : VRel μ (.map (some b)) (.map (some T.c))
  | func (fn fn' : Fn) (xs xs' ys ys' : Array Value) (hf : FnRel μ fn fn') (hx : xs.size = xs'.size)
      (ex : ∀ (i : Nat) (h : i < xs.size) (h' : i < xs'.size), VRel μ xs[i] xs'[i]) (hy : ys.size = ys'.size)
      (ey : ∀ (i : Nat) (h : i < ys.size) (h' : i < ys'.size), VRel μ ys[i] ys'[i]) : VRel μ (.func fn xs ys) (.func fn' xs' ys')
  | nilFunc : VRel μ .nilFunc .nilFunc
  | iface (t : TypeId) (v v' : Value) (h : VRel μ v v') : VRel μ (.iface t v) (.iface t v')
  | nilIface : VRel μ .nilIface .nilIface
  | agg (xs xs' : Array Value) (hx : xs.size = xs'.size) (ex : ∀ (i : Nat) (h : i < xs.size) (h' : i < xs'.size), VRel μ xs[i] xs'[i]) : VRel μ (.agg xs) (.agg xs')
  | tuple (xs xs' : Array Value) (hx : xs.size = xs'.size) (ex : ∀ (i : Nat) (h : i < xs.size) (h' : i < xs'.size), VRel μ xs[i] xs'[i]) : VRel μ (.tuple xs) (.tuple xs')

theorem FnRel.mono {μ ν : Inj} (hl : μ.le ν) {f f' : Fn} (h : FnRel μ f f') : FnRel ν f f' := by
  cases h with
  | func f => exact .func f
  | method n => exact .method n
  | methodOf t n => exact .methodOf t n
  | via t p f b => exact .via t p f b
  | yield l T h => exact .yield l T (hl _ _ h)

theorem VRel.mono {μ ν : Inj} (hl : μ.le ν) {v v' : Value} (h : VRel μ v v') : VRel ν v v' := by
  induction h with
  | junk v => exact .junk v
  | bool b => exact .bool b
  | int k n => exact .int k n
  | float k n => exact .float k n
  | string s => exact .string s
  | nilptr => exact .nilptr
  | ptr b o T h => exact .ptr b o T (hl _ _ h)
  | nilslice l c => exact .nilslice l c
  | slice b o l k k' o' T h hc ho => exact .slice b o l k k' o' T (hl _ _ h) hc ho
  | vptr b o i T h => exact .vptr b o i T (hl _ _ h)
  | vslice b i l k k' o' T h hc ho => exact .vslice b i l k k' o' T (hl _ _ h) hc ho
  | nilmap => exact .nilmap
  | map b T h => exact .map b T (hl _ _ h)
  | func fn fn' xs xs' ys ys' hf hx _ hy _ ihx ihy => exact .func fn fn' xs xs' ys ys' (hf.mono hl) hx ihx hy ihy
  | nilFunc => exact .nilFunc
  | iface t v v' _ ih => exact .iface t v v' ih
  | nilIface => exact .nilIface
  | agg xs xs' hx _ ih => exact .agg xs xs' hx ih
  | tuple xs xs' hx _ ih => exact .tuple xs xs' hx ih

theorem VRel.undef (μ : Inj) : VRel μ undef undef := .tuple _ _ rfl (fun i h => absurd h (by simp))

/-! Lists of values. -/
inductive LRel (μ : Inj) : List Value → List Value → Prop where
  | nil : LRel μ [] []
  | cons {v v' : Value} {l l' : List Value} (h : VRel μ v v') (t : LRel μ l l') : LRel μ (v :: l) (v' :: l')

namespace LRel
variable {μ ν : Inj}
theorem mono (hl : μ.le ν) {l l' : List Value} (h : LRel μ l l') : LRel ν l l' := by
  induction h with
  | nil => exact .nil
  | cons h _ ih => exact .cons (h.mono hl) ih
theorem length {l l' : List Value} (h : LRel μ l l') : l.length = l'.length := by
  induction h with
  | nil => rfl
  | cons _ _ ih => simp [ih]
theorem of_idx {l l' : List Value} (hs : l.length = l'.length) (h : ∀ (i : Nat) (h : i < l.length) (h' : i < l'.length), VRel μ l[i] l'[i]) : LRel μ l l' := by
  induction l generalizing l' with
  | nil => cases l' with
    | nil => exact .nil
    | cons => cases hs
  | cons a l ih => cases l' with
    | nil => cases hs
    | cons a' l' =>
      refine .cons (h 0 (by simp) (by simp)) (ih (by simpa using hs) fun i h1 h2 => ?_)
      exact h (i + 1) (by simpa using h1) (by simpa using h2)
theorem idx {l l' : List Value} (h : LRel μ l l') : ∀ (i : Nat) (h : i < l.length) (h' : i < l'.length), VRel μ l[i] l'[i] := by
  induction h with
  | nil => intro i h; simp at h
  | cons h _ ih =>
    intro i h1 h2
    cases i with
    | zero => exact h
    | succ i => exact ih i (by simpa using h1) (by simpa using h2)
theorem get? {l l' : List Value} (h : LRel μ l l') {i : Nat} {v : Value} (hv : l[i]? = some v) : ∃ v', l'[i]? = some v' ∧ VRel μ v v' := by
  induction h generalizing i with
  | nil => simp at hv
  | cons h _ ih =>
    cases i with
    | zero => simp at hv; subst hv; exact ⟨_, rfl, h⟩
    | succ i => simp at hv; simpa using ih hv
theorem append {a a' b b' : List Value} (h : LRel μ a a') (h' : LRel μ b b') : LRel μ (a ++ b) (a' ++ b') := by
  induction h with
  | nil => exact h'
  | cons h _ ih => exact .cons h ih
theorem take {l l' : List Value} (h : LRel μ l l') (n : Nat) : LRel μ (l.take n) (l'.take n) := by
  induction h generalizing n with
  | nil => simp; exact .nil
  | cons h _ ih => cases n with
    | zero => exact .nil
    | succ n => exact .cons h (ih n)
theorem drop {l l' : List Value} (h : LRel μ l l') (n : Nat) : LRel μ (l.drop n) (l'.drop n) := by
  induction h generalizing n with
  | nil => simp; exact .nil
  | cons h t ih => cases n with
    | zero => exact .cons h t
    | succ n => exact ih n
theorem set {l l' : List Value} (h : LRel μ l l') (i : Nat) {v v' : Value} (hv : VRel μ v v') : LRel μ (l.set i v) (l'.set i v') := by
  induction h generalizing i with
  | nil => exact .nil
  | cons h t ih => cases i with
    | zero => exact .cons hv t
    | succ i => exact .cons h (ih i)
theorem map {α : Type} (l : List α) (f g : α → Value) (h : ∀ x ∈ l, VRel μ (f x) (g x)) : LRel μ (l.map f) (l.map g) := by
  induction l with
  | nil => exact .nil
  | cons a l ih => exact .cons (h a (by simp)) (ih fun x hx => h x (by simp [hx]))
theorem replicate (n : Nat) {v v' : Value} (h : VRel μ v v') : LRel μ (List.replicate n v) (List.replicate n v') := by
  induction n with
  | zero => exact .nil
  | succ n ih => exact .cons h ih
end LRel

theorem VRel.agg_iff {μ : Inj} {xs : Array Value} {v' : Value} : VRel μ (.agg xs) v' ↔ ∃ xs', v' = .agg xs' ∧ LRel μ xs.toList xs'.toList := by
  constructor
  · intro h
    cases h with
    | agg xs xs' hx ex => exact ⟨xs', rfl, .of_idx (by simpa using hx) fun i h1 h2 => by simpa using ex i (by simpa using h1) (by simpa using h2)⟩
  · rintro ⟨xs', rfl, h⟩
    exact .agg _ _ (by simpa using h.length) fun i h1 h2 => h.idx i (by simpa using h1) (by simpa using h2)
theorem VRel.tuple_iff {μ : Inj} {xs : Array Value} {v' : Value} : VRel μ (.tuple xs) v' ↔ ∃ xs', v' = .tuple xs' ∧ LRel μ xs.toList xs'.toList := by
  constructor
  · intro h
    cases h with
    | tuple xs xs' hx ex => exact ⟨xs', rfl, .of_idx (by simpa using hx) fun i h1 h2 => by simpa using ex i (by simpa using h1) (by simpa using h2)⟩
  · rintro ⟨xs', rfl, h⟩
    exact .tuple _ _ (by simpa using h.length) fun i h1 h2 => h.idx i (by simpa using h1) (by simpa using h2)
theorem VRel.func_iff {μ : Inj} {fn : Fn} {xs ys : Array Value} {v' : Value} : VRel μ (.func fn xs ys) v' ↔
    ∃ fn' xs' ys', v' = .func fn' xs' ys' ∧ FnRel μ fn fn' ∧ LRel μ xs.toList xs'.toList ∧ LRel μ ys.toList ys'.toList := by
  constructor
  · intro h
    cases h with
    | func fn fn' xs xs' ys ys' hf hx ex hy ey =>
      exact ⟨fn', xs', ys', rfl, hf, .of_idx (by simpa using hx) fun i h1 h2 => by simpa using ex i (by simpa using h1) (by simpa using h2),
        .of_idx (by simpa using hy) fun i h1 h2 => by simpa using ey i (by simpa using h1) (by simpa using h2)⟩
  · rintro ⟨fn', xs', ys', rfl, hf, h, h'⟩
    exact .func _ _ _ _ _ _ hf (by simpa using h.length) (fun i h1 h2 => h.idx i (by simpa using h1) (by simpa using h2))
      (by simpa using h'.length) (fun i h1 h2 => h'.idx i (by simpa using h1) (by simpa using h2))

/-! Slots. -/
noncomputable def look (t : Tr Value) (i : Nat) : Value := (t.get i).getD junk
def TRel (μ : Inj) (t : Tr Value) (n : Nat) (a : Array Value) : Prop := a.size = n ∧ ∀ i, VRel μ (look t i) (a.getD i Go.undef)
theorem TRel.mono {μ ν : Inj} (hl : μ.le ν) {t : Tr Value} {n : Nat} {a : Array Value} (h : TRel μ t n a) : TRel ν t n a := ⟨h.1, fun i => (h.2 i).mono hl⟩
theorem TRel.put {μ : Inj} {t : Tr Value} {n : Nat} {a : Array Value} (h : TRel μ t n a) {d : Nat} (hd : d < n) {v v' : Value} (hv : VRel μ v v') :
    TRel μ (t.put d (some v)) n (a.setIfInBounds d v') := by
  refine ⟨by simp [h.1], fun i => ?_⟩
  unfold look
  rw [Tr.get_put]
  by_cases e : i = d
  · subst e
    rw [if_pos rfl]
    have : (a.setIfInBounds i v').getD i Go.undef = v' := by
      rw [Array.getD_eq_getD_getElem?, Array.getElem?_setIfInBounds]; simp [h.1, hd]
    rw [this]; exact hv
  · rw [if_neg e]
    have : (a.setIfInBounds d v').getD i Go.undef = a.getD i Go.undef := by
      rw [Array.getD_eq_getD_getElem?, Array.getElem?_setIfInBounds]; simp [Ne.symm e, Array.getD_eq_getD_getElem?]
    rw [this]; exact h.2 i

/-! Deferred calls. -/
inductive TgtRel (μ : Inj) : Target → Target → Prop where
  | fn (fn fn' : Fn) (ys ys' : Array Value) (hf : FnRel μ fn fn') (hy : LRel μ ys.toList ys'.toList) : TgtRel μ (.fn fn ys) (.fn fn' ys')
  | nil : TgtRel μ .nil .nil
  | builtin (b : Builtin) (ts : Array TypeId) (t : TypeId) (cs : Array Bool) : TgtRel μ (.builtin b ts t cs) (.builtin b ts t cs)
  | collected (r : Nat) (T : Tgt) (h : μ r = some T) : TgtRel μ (.collected r) (.collected T.c)
structure DefRel (μ : Inj) (d d' : Deferred) : Prop where
  tgt : TgtRel μ d.target d'.target
  args : LRel μ d.args.toList d'.args.toList
theorem TgtRel.mono {μ ν : Inj} (hl : μ.le ν) {t t' : Target} (h : TgtRel μ t t') : TgtRel ν t t' := by
  cases h with
  | fn fn fn' ys ys' hf hy => exact .fn fn fn' ys ys' (hf.mono hl) (hy.mono hl)
  | nil => exact .nil
  | builtin b ts t cs => exact .builtin b ts t cs
  | collected r T h => exact .collected r T (hl _ _ h)
theorem DefRel.mono {μ ν : Inj} (hl : μ.le ν) {d d' : Deferred} (h : DefRel μ d d') : DefRel ν d d' := ⟨h.tgt.mono hl, h.args.mono hl⟩
inductive DefsRel (μ : Inj) : List Deferred → List Deferred → Prop where
  | nil : DefsRel μ [] []
  | cons {d d' : Deferred} {l l' : List Deferred} (h : DefRel μ d d') (t : DefsRel μ l l') : DefsRel μ (d :: l) (d' :: l')
theorem DefsRel.mono {μ ν : Inj} (hl : μ.le ν) {l l' : List Deferred} (h : DefsRel μ l l') : DefsRel ν l l' := by
  induction h with
  | nil => exact .nil
  | cons h _ ih => exact .cons (h.mono hl) ih
theorem DefsRel.append {μ : Inj} {a a' b b' : List Deferred} (h : DefsRel μ a a') (h' : DefsRel μ b b') : DefsRel μ (a ++ b) (a' ++ b') := by
  induction h with
  | nil => exact h'
  | cons h _ ih => exact .cons h ih

/-! Objects and heaps. -/
structure ILoop where
  state : LoopState
  pending : Option Code
  fn : FuncId
  tmps : Tr Value
  n : Nat
  params : Array Tmp
  assign : Code
  body : Code
  defers : Nat

inductive IObj where
  | cells (cs : List Value) (e : Nat) (ro : Bool)
  | loop (l : ILoop)
  | deferred (calls : Option (List Deferred))
  | strIter (s : ByteArray) (pos : Nat)
  | map (es : List MapEntry) (clock : Nat)
  | vec (k : EK) (l : List (EK.C k)) (ro : Bool)
  | abs (a : Abs) (ro : Bool)

def IObj.ro : IObj → Bool
  | .cells _ _ ro => ro
  | .vec _ _ ro => ro
  | .abs _ ro => ro
  | _ => false
def IObj.isAbs : IObj → Bool
  | .abs _ _ => true
  | _ => false

inductive EntsRel (μ : Inj) : List MapEntry → List MapEntry → Prop where
  | nil : EntsRel μ [] []
  | cons {e e' : MapEntry} {l l' : List MapEntry} (hk : VRel μ e.key e'.key) (hv : VRel μ e.val e'.val) (hb : e.born = e'.born) (t : EntsRel μ l l') : EntsRel μ (e :: l) (e' :: l')
theorem EntsRel.mono {μ ν : Inj} (hl : μ.le ν) {l l' : List MapEntry} (h : EntsRel μ l l') : EntsRel ν l l' := by
  induction h with
  | nil => exact .nil
  | cons hk hv hb _ ih => exact .cons (hk.mono hl) (hv.mono hl) hb ih

inductive ORel (μ : Inj) : Tgt → IObj → Obj → Prop where
  | cells (T : Tgt) (cs : List Value) (e : Nat) (ro : Bool) (c : Array Value) (t : TypeId) (lo hi : Nat) (he : e = T.e) (hc : LRel μ cs ((c.toList.drop T.d).take cs.length))
      (hr : c.size = T.d + T.r) (hf : ro = false → ∀ i, i < c.size ∨ (i = c.size ∧ e ≠ 1) → ¬ (lo ≤ i ∧ i < hi)) : ORel μ T (.cells cs e ro) (.cells c t (lo, hi))
  | loop (T : Tgt) (l : ILoop) (a : Array Value) (R : Tgt) (ht : TRel μ l.tmps l.n a) (hd : μ l.defers = some R) :
      ORel μ T (.loop l) (.loop { state := l.state, pending := l.pending, fn := l.fn, tmps := a, params := l.params, assign := l.assign, body := l.body, defers := R.c })
  | deferredNone (T : Tgt) : ORel μ T (.deferred none) (.deferred none)
  | deferred (T : Tgt) (l l' : List Deferred) (h : DefsRel μ l l') : ORel μ T (.deferred (some l)) (.deferred (some l'))
  | strIter (T : Tgt) (s : ByteArray) (p : Nat) (hd : T.d = 0) : ORel μ T (.strIter s p) (.stringIter s p)
  | map (T : Tgt) (es : List MapEntry) (es' : Array MapEntry) (clock : Nat) (h : EntsRel μ es es'.toList) : ORel μ T (.map es clock) (.map es' clock)
  | vec (T : Tgt) (k : EK) (l : List (EK.C k)) (ro : Bool) (o : Obj) (h : ORel μ T (.cells (encL k l) k.length ro) o) : ORel μ T (.vec k l ro) o
  | abs (T : Tgt) (a : Abs) (ro : Bool) (o : Obj) : ORel μ T (.abs a ro) o

theorem ORel.mono {μ ν : Inj} (hl : μ.le ν) {T : Tgt} {o : IObj} {o' : Obj} (h : ORel μ T o o') : ORel ν T o o' := by
  induction h with
  | cells cs e ro c t lo hi he hc hr hf => exact .cells T cs e ro c t lo hi he (hc.mono hl) hr hf
  | loop l a R ht hd => exact .loop T l a R (ht.mono hl) (hl _ _ hd)
  | deferredNone => exact .deferredNone T
  | deferred l l' h => exact .deferred T l l' (h.mono hl)
  | strIter s p hd => exact .strIter T s p hd
  | map es es' clock h => exact .map T es es' clock (h.mono hl)
  | vec k l ro o _ ih => exact .vec T k l ro o ih
  | abs a ro o => exact .abs T a ro o

structure IHeap where
  m : Tr IObj
  next : Nat
noncomputable def IHeap.get (H : IHeap) (b : Nat) : Option IObj := H.m.get b
noncomputable def IHeap.put (H : IHeap) (b : Nat) (o : IObj) : IHeap := ⟨H.m.put b (some o), H.next⟩
noncomputable def IHeap.del (H : IHeap) (b : Nat) : IHeap := ⟨H.m.put b none, H.next⟩
noncomputable def IHeap.alloc (H : IHeap) (o : IObj) : IHeap := ⟨H.m.put H.next (some o), H.next + 1⟩
theorem IHeap.get_put (H : IHeap) (b i : Nat) (o : IObj) : (H.put b o).get i = if i = b then some o else H.get i := Tr.get_put ..
theorem IHeap.get_del (H : IHeap) (b i : Nat) : (H.del b).get i = if i = b then none else H.get i := Tr.get_put ..
theorem IHeap.get_alloc (H : IHeap) (i : Nat) (o : IObj) : (H.alloc o).get i = if i = H.next then some o else H.get i := Tr.get_put ..

/-- What stays as it was, and what it is for an object to be told as a whole. -/
structure Env where
  K : Nat → Prop
  mu0 : Inj
  Rep : Abs → Tgt → (Nat → Prop) → World → Prop
  loc : ∀ a T F W W', Rep a T F W → (∀ i, F i → W'.heap[i]? = W.heap[i]?) → Rep a T F W'
  bnd : ∀ a T F W, Rep a T F W → F T.c ∧ ∀ i, F i → i < W.heap.size

/-- The objects that are told as a whole, each with the blocks that are its own. -/
structure AbsOk (base : Env) (μ : Inj) (H : IHeap) (W : World) (φ : Nat → Nat → Prop) : Prop where
  rep : ∀ b a ro T, H.get b = some (.abs a ro) → μ b = some T → base.Rep a T (φ b) W ∧ (ro = false → ∀ i, φ b i → ¬ base.K i)
  far : ∀ b a ro T, H.get b = some (.abs a ro) → μ b = some T → ∀ b2 o2 T2, H.get b2 = some o2 → μ b2 = some T2 → b2 ≠ b → ¬ φ b T2.c ∧ (o2.isAbs = true → ∀ i, φ b i → ¬ φ b2 i)

theorem IHeap.get_of_del {H : IHeap} {b i : Nat} {o : IObj} (e : (H.del b).get i = some o) : i ≠ b ∧ H.get i = some o := by
  rw [IHeap.get_del] at e
  by_cases hi : i = b
  · rw [if_pos hi] at e; cases e
  · rw [if_neg hi] at e; exact ⟨hi, e⟩

/-- 'base.K': those blocks are as they were in W0. -/
structure HRel (base : Env) (W0 : World) (μ : Inj) (H : IHeap) (W : World) : Prop where
  obj : ∀ b o, H.get b = some o → ∀ T, μ b = some T → ∃ o', W.heap[T.c]? = some o' ∧ ORel μ T o o'
  own : ∀ b o, H.get b = some o → o.ro = false → ∀ T, μ b = some T → ¬ base.K T.c
  inj : ∀ b1 b2 o1 o2, H.get b1 = some o1 → H.get b2 = some o2 → ∀ T1 T2, μ b1 = some T1 → μ b2 = some T2 → T1.c = T2.c → b1 = b2
  fresh : ∀ b, H.next ≤ b → H.get b = none ∧ μ b = none
  bound : ∀ b T, μ b = some T → T.c < W.heap.size
  size : ∀ i, base.K i → i < W.heap.size
  below : ∀ i, base.K i → W.heap[i]? = W0.heap[i]?
  out : W.output = W0.output
  os : W.os = W0.os
  abs : ∃ φ, AbsOk base μ H W φ
  le : base.mu0.le μ
  grow : W0.heap.size ≤ W.heap.size

/-- What a step does to the ideal heap and the map: nothing that is not there yet in memory is touched. -/
structure Evolve (μ : Inj) (H : IHeap) (μ' : Inj) (H' : IHeap) : Prop where
  le : μ.le μ'
  next : H.next ≤ H'.next
  ghost : ∀ b, b < H.next → μ b = none → μ' b = none ∧ H'.get b = H.get b
theorem Evolve.refl (μ : Inj) (H : IHeap) : Evolve μ H μ H := ⟨Inj.le_refl _, Nat.le_refl _, fun _ _ h => ⟨h, rfl⟩⟩
theorem Evolve.trans {μ ν ξ : Inj} {H I J : IHeap} (h : Evolve μ H ν I) (h' : Evolve ν I ξ J) : Evolve μ H ξ J :=
  ⟨Inj.le_trans h.le h'.le, Nat.le_trans h.next h'.next, fun b hb hm =>
    have h1 := h.ghost b hb hm
    have h2 := h'.ghost b (Nat.lt_of_lt_of_le hb h.next) h1.1
    ⟨h2.1, h2.2.trans h1.2⟩⟩

section
variable {base : Env} {W0 : World} {μ : Inj} {H : IHeap} {W : World}

theorem HRel.lt (h : HRel base W0 μ H W) {b : Nat} {o : IObj} (hb : H.get b = some o) : b < H.next := by
  rcases Nat.lt_or_ge b H.next with h' | h'
  · exact h'
  · rw [(h.fresh b h').1] at hb; cases hb
theorem HRel.lt_map (h : HRel base W0 μ H W) {b : Nat} {x : Tgt} (hb : μ b = some x) : b < H.next := by
  rcases Nat.lt_or_ge b H.next with h' | h'
  · exact h'
  · rw [(h.fresh b h').2] at hb; cases hb

/-- Only the count of draws moves. -/
theorem HRel.drawn (h : HRel base W0 μ H W) (n : Nat) : HRel base W0 μ H { W with drawn := n } :=
  ⟨h.obj, h.own, h.inj, h.fresh, h.bound, h.size, h.below, h.out, h.os, let ⟨φ, q⟩ := h.abs; ⟨φ, fun b a ro T h1 h2 => let ⟨r1, r2⟩ := q.rep b a ro T h1 h2; ⟨base.loc _ _ _ _ _ r1 (fun _ _ => rfl), r2⟩, q.far⟩, h.le, h.grow⟩

theorem isAbs_eq {o : IObj} (h : o.isAbs = true) : ∃ a ro, o = .abs a ro := by
  cases o <;> first | exact ⟨_, _, rfl⟩ | cases h

/-- One block is changed. -/
theorem HRel.update (h : HRel base W0 μ H W) {b : Nat} {T : Tgt} {o o1 : IObj} (hb : H.get b = some o) (hro : o.ro = false) (hm : μ b = some T) {W' : World} {o1' : Obj}
    (hsz : W'.heap.size = W.heap.size) (hother : ∀ i, i ≠ T.c → W'.heap[i]? = W.heap[i]?) (hc : W'.heap[T.c]? = some o1') (ho : ORel μ T o1 o1') (hout : W'.output = W.output) (hos : W'.os = W.os)
    (hna1 : o1.isAbs = false := by rfl) :
    HRel base W0 μ (H.put b o1) W' ∧ Evolve μ H μ (H.put b o1) := by
  have hbase := h.own b o hb hro T hm
  refine ⟨⟨?_, ?_, ?_, ?_, ?_, ?_, ?_, ?_, ?_, ?_, h.le, by rw [hsz]; exact h.grow⟩, ⟨Inj.le_refl _, Nat.le_refl _, ?_⟩⟩
  · intro b' o' hb' T' hm'
    rw [IHeap.get_put] at hb'
    by_cases e : b' = b
    · subst e
      rw [if_pos rfl] at hb'; cases hb'
      rw [hm] at hm'; cases hm'
      exact ⟨o1', hc, ho⟩
    · rw [if_neg e] at hb'
      have hne : T'.c ≠ T.c := fun e' => e (h.inj b' b _ _ hb' hb T' T hm' hm e')
      obtain ⟨o2, h2, h3⟩ := h.obj b' o' hb' T' hm'
      exact ⟨o2, by rw [hother T'.c hne]; exact h2, h3⟩
  · intro b' o' hb' hro' T' hm'
    rw [IHeap.get_put] at hb'
    by_cases e : b' = b
    · subst e; rw [hm] at hm'; cases hm'; exact hbase
    · rw [if_neg e] at hb'; exact h.own b' o' hb' hro' T' hm'
  · intro b1 b2 p1 p2 h1 h2 T1 T2 m1 m2 hcc
    rw [IHeap.get_put] at h1 h2
    by_cases e1 : b1 = b <;> by_cases e2 : b2 = b
    · rw [e1, e2]
    · subst e1; rw [if_neg e2] at h2; exact h.inj b1 b2 _ _ hb h2 T1 T2 m1 m2 hcc
    · subst e2; rw [if_neg e1] at h1; exact h.inj b1 b2 _ _ h1 hb T1 T2 m1 m2 hcc
    · rw [if_neg e1] at h1; rw [if_neg e2] at h2; exact h.inj b1 b2 _ _ h1 h2 T1 T2 m1 m2 hcc
  · intro b' hb'
    have hlt := h.lt hb
    have hb2 : H.next ≤ b' := hb'
    refine ⟨?_, (h.fresh b' hb2).2⟩
    rw [IHeap.get_put, if_neg (by omega)]; exact (h.fresh b' hb2).1
  · intro b' T' hm'; rw [hsz]; exact h.bound b' T' hm'
  · intro i hi; rw [hsz]; exact h.size i hi
  · intro i hi; rw [hother i (by rintro rfl; exact hbase hi)]; exact h.below i hi
  · rw [hout]; exact h.out
  · rw [hos]; exact h.os
  · obtain ⟨φ, q⟩ := h.abs
    have key : ∀ b' o', (H.put b o1).get b' = some o' → (b' = b ∧ o' = o1) ∨ (b' ≠ b ∧ H.get b' = some o') := by
      intro b' o' hb'
      rw [IHeap.get_put] at hb'
      by_cases e : b' = b
      · rw [if_pos e] at hb'; cases hb'; exact .inl ⟨e, rfl⟩
      · rw [if_neg e] at hb'; exact .inr ⟨e, hb'⟩
    refine ⟨φ, ?_, ?_⟩
    · intro b' a ro T' hb' hm'
      rcases key b' _ hb' with ⟨_, e⟩ | ⟨hne, hb2⟩
      · rw [← e] at hna1; cases hna1
      · obtain ⟨r1, r2⟩ := q.rep b' a ro T' hb2 hm'
        have hfar := (q.far b' a ro T' hb2 hm' b o T hb hm (Ne.symm hne)).1
        exact ⟨base.loc _ _ _ _ _ r1 (fun i hi => hother i (by rintro rfl; exact hfar hi)), r2⟩
    · intro b' a ro T' hb' hm' b2 o2 T2 hb2 hm2 hne2
      rcases key b' _ hb' with ⟨_, e⟩ | ⟨hne, hb3⟩
      · rw [← e] at hna1; cases hna1
      · rcases key b2 _ hb2 with ⟨rfl, rfl⟩ | ⟨hne3, hb4⟩
        · exact ⟨(q.far b' a ro T' hb3 hm' b2 o T2 hb hm2 hne2).1, fun e => by rw [hna1] at e; cases e⟩
        · exact q.far b' a ro T' hb3 hm' b2 o2 T2 hb4 hm2 hne2
  · intro b' hb' hm'
    refine ⟨hm', ?_⟩
    rw [IHeap.get_put, if_neg]
    rintro rfl; rw [hm] at hm'; cases hm'

/-- A new ideal block, at a place in memory that no other live one has. -/
theorem HRel.map_new (h : HRel base W0 μ H W) {T : Tgt} {o : IObj} {o' : Obj} {W' : World} (hsz : W.heap.size ≤ W'.heap.size) (hother : ∀ i, i < W.heap.size → i ≠ T.c → W'.heap[i]? = W.heap[i]?)
    (hne : ∀ b p T', H.get b = some p → μ b = some T' → T'.c ≠ T.c) (hφ : ∃ φ, AbsOk base μ H W φ ∧ ∀ b a ro, H.get b = some (.abs a ro) → (∃ T', μ b = some T') → ¬ φ b T.c)
    (hT : W'.heap[T.c]? = some o') (hbase : ¬ base.K T.c) (ho : ORel μ T o o') (hout : W'.output = W.output) (hos : W'.os = W.os) (hna : o.isAbs = false := by rfl) :
    HRel base W0 (μ.ext H.next T) (H.alloc o) W' ∧ Evolve μ H (μ.ext H.next T) (H.alloc o) := by
  have hn := (h.fresh H.next (Nat.le_refl _)).2
  have hle := Inj.le_ext T hn
  have hlt : T.c < W'.heap.size := by
    rcases Nat.lt_or_ge T.c W'.heap.size with hh | hh
    · exact hh
    · rw [Array.getElem?_eq_none hh] at hT; cases hT
  have key : ∀ i X, (μ.ext H.next T) i = some X → (i = H.next ∧ X = T) ∨ (i ≠ H.next ∧ μ i = some X) := by
    intro i X e
    by_cases hi : i = H.next
    · subst hi; rw [Inj.ext_same] at e; cases e; exact .inl ⟨rfl, rfl⟩
    · rw [Inj.ext_ne _ _ hi] at e; exact .inr ⟨hi, e⟩
  refine ⟨⟨?_, ?_, ?_, ?_, ?_, ?_, ?_, ?_, ?_, ?_, Inj.le_trans h.le hle, Nat.le_trans h.grow hsz⟩, ⟨hle, by simp [IHeap.alloc], ?_⟩⟩
  · intro b p hb X hm
    rcases key b X hm with ⟨rfl, rfl⟩ | ⟨hne', hm'⟩
    · rw [IHeap.get_alloc, if_pos rfl] at hb; cases hb
      exact ⟨o', hT, ho.mono hle⟩
    · rw [IHeap.get_alloc, if_neg hne'] at hb
      obtain ⟨o2, h2, h3⟩ := h.obj b p hb X hm'
      exact ⟨o2, by rw [hother _ (h.bound b X hm') (hne b p X hb hm')]; exact h2, h3.mono hle⟩
  · intro b p hb hr X hm
    rcases key b X hm with ⟨rfl, rfl⟩ | ⟨hne', hm'⟩
    · exact hbase
    · rw [IHeap.get_alloc, if_neg hne'] at hb; exact h.own b p hb hr X hm'
  · intro b1 b2 p1 p2 h1 h2 T1 T2 m1 m2 hcc
    rcases key b1 T1 m1 with ⟨e1, rfl⟩ | ⟨n1, m1'⟩ <;> rcases key b2 T2 m2 with ⟨e2, e3⟩ | ⟨n2, m2'⟩
    · rw [e1, e2]
    · rw [IHeap.get_alloc, if_neg n2] at h2
      exact absurd hcc.symm (hne b2 _ T2 h2 m2')
    · rw [IHeap.get_alloc, if_neg n1] at h1
      subst e3
      exact absurd hcc (hne b1 _ T1 h1 m1')
    · rw [IHeap.get_alloc, if_neg n1] at h1; rw [IHeap.get_alloc, if_neg n2] at h2
      exact h.inj b1 b2 _ _ h1 h2 T1 T2 m1' m2' hcc
  · intro b hb
    have hb' : H.next + 1 ≤ b := hb
    refine ⟨?_, ?_⟩
    · rw [IHeap.get_alloc, if_neg (by omega)]; exact (h.fresh b (by omega)).1
    · rw [Inj.ext_ne _ _ (by omega)]; exact (h.fresh b (by omega)).2
  · intro b X hm
    rcases key b X hm with ⟨rfl, rfl⟩ | ⟨hne', hm'⟩
    · exact hlt
    · have := h.bound b X hm'; omega
  · intro i hi; have := h.size i hi; omega
  · intro i hi; rw [hother i (h.size i hi) (by rintro rfl; exact hbase hi)]; exact h.below i hi
  · rw [hout]; exact h.out
  · rw [hos]; exact h.os
  · obtain ⟨φ, q, hq⟩ := hφ
    have key2 : ∀ b' p, (H.alloc o).get b' = some p → (b' = H.next ∧ p = o) ∨ (b' ≠ H.next ∧ H.get b' = some p) := by
      intro b' p hb'
      rw [IHeap.get_alloc] at hb'
      by_cases e : b' = H.next
      · rw [if_pos e] at hb'; cases hb'; exact .inl ⟨e, rfl⟩
      · rw [if_neg e] at hb'; exact .inr ⟨e, hb'⟩
    refine ⟨φ, ?_, ?_⟩
    · intro b' a ro T' hb' hm'
      rcases key2 b' _ hb' with ⟨_, e⟩ | ⟨hne', hb2⟩
      · rw [← e] at hna; cases hna
      · rw [Inj.ext_ne _ _ hne'] at hm'
        obtain ⟨r1, r2⟩ := q.rep b' a ro T' hb2 hm'
        exact ⟨base.loc _ _ _ _ _ r1 (fun i hi => hother i ((base.bnd _ _ _ _ r1).2 i hi) (by rintro rfl; exact hq b' a ro hb2 ⟨T', hm'⟩ hi)), r2⟩
    · intro b' a ro T' hb' hm' b2 o2 T2 hb2 hm2 hne2
      rcases key2 b' _ hb' with ⟨_, e⟩ | ⟨hne', hb3⟩
      · rw [← e] at hna; cases hna
      · rw [Inj.ext_ne _ _ hne'] at hm'
        rcases key2 b2 _ hb2 with ⟨rfl, rfl⟩ | ⟨hne3, hb4⟩
        · rw [Inj.ext_same] at hm2; cases hm2
          exact ⟨hq b' a ro hb3 ⟨T', hm'⟩, fun e => by rw [hna] at e; cases e⟩
        · rw [Inj.ext_ne _ _ hne3] at hm2
          exact q.far b' a ro T' hb3 hm' b2 o2 T2 hb4 hm2 hne2
  · intro b hb hm
    have hb' : b < H.next := hb
    refine ⟨?_, ?_⟩
    · rw [Inj.ext_ne _ _ (by omega)]; exact hm
    · rw [IHeap.get_alloc, if_neg (by omega)]

/-- A new block. -/
theorem HRel.alloc (h : HRel base W0 μ H W) {T : Tgt} {o : IObj} {o' : Obj} (hT : T.c = W.heap.size) (ho : ORel μ T o o') (hna : o.isAbs = false := by rfl) :
    HRel base W0 (μ.ext H.next T) (H.alloc o) (W.alloc o') ∧ Evolve μ H (μ.ext H.next T) (H.alloc o) := by
  have old : ∀ i, i < W.heap.size → (W.alloc o').heap[i]? = W.heap[i]? := by
    intro i hi
    show (W.heap.push o')[i]? = W.heap[i]?
    rw [Array.getElem?_push, if_neg (by omega)]
  obtain ⟨φ, q⟩ := h.abs
  refine h.map_new (by simp) (fun i hi _ => old i hi) (fun b p T' hb hm => by have := h.bound b T' hm; omega) ⟨φ, q, fun b a ro hb ⟨T', hm⟩ hc => ?_⟩ ?_ (fun hk => by have := h.size _ hk; omega) ho rfl rfl hna
  · have := (base.bnd _ _ _ _ (q.rep b a ro T' hb hm).1).2 _ hc
    omega
  rw [hT]
  show (W.heap.push o')[W.heap.size]? = some o'
  simp

/-- An ideal block is given up. -/
theorem HRel.del (h : HRel base W0 μ H W) {b : Nat} {T : Tgt} (hm : μ b = some T) : HRel base W0 μ (H.del b) W ∧ Evolve μ H μ (H.del b) := by
  have key : ∀ i o, (H.del b).get i = some o → i ≠ b ∧ H.get i = some o := by
    intro i o e
    rw [IHeap.get_del] at e
    by_cases hi : i = b
    · rw [if_pos hi] at e; cases e
    · rw [if_neg hi] at e; exact ⟨hi, e⟩
  refine ⟨⟨fun i o e => h.obj i o (key i o e).2, fun i o e => h.own i o (key i o e).2, fun b1 b2 o1 o2 h1 h2 => h.inj b1 b2 o1 o2 (key _ _ h1).2 (key _ _ h2).2, ?_, h.bound, h.size, h.below, h.out, h.os,
    let ⟨φ, q⟩ := h.abs; ⟨φ, fun b' a ro T' h1 h2 => q.rep b' a ro T' (key _ _ h1).2 h2, fun b' a ro T' h1 h2 b2 o2 T2 h3 h4 h5 => q.far b' a ro T' (key _ _ h1).2 h2 b2 o2 T2 (key _ _ h3).2 h4 h5⟩, h.le, h.grow⟩,
    ⟨Inj.le_refl _, Nat.le_refl _, ?_⟩⟩
  · intro i hi
    refine ⟨?_, (h.fresh i hi).2⟩
    rw [IHeap.get_del]
    by_cases e : i = b
    · rw [if_pos e]
    · rw [if_neg e]; exact (h.fresh i hi).1
  · intro i hi hn
    refine ⟨hn, ?_⟩
    rw [IHeap.get_del, if_neg]
    rintro rfl; rw [hm] at hn; cases hn

/-- Reading a cell. -/
theorem HRel.cell (h : HRel base W0 μ H W) {b e i : Nat} {T : Tgt} {cs : List Value} {ro : Bool} {v : Value} (hb : H.get b = some (.cells cs e ro)) (hm : μ b = some T) (hv : cs[i]? = some v) :
    ∃ v', W.cell? ⟨T.c, T.d + i, none⟩ = some v' ∧ VRel μ v v' := by
  obtain ⟨o', ho', hr⟩ := h.obj b _ hb T hm
  cases hr with
  | cells _ _ _ a t lo hi he hc hr hf =>
    obtain ⟨v', h1, h2⟩ := hc.get? hv
    refine ⟨v', ?_, h2⟩
    simp only [World.cell?, ho']
    rw [List.getElem?_take] at h1
    split at h1
    · rw [List.getElem?_drop] at h1; simpa using h1
    · cases h1
theorem HRel.frozen (h : HRel base W0 μ H W) {b e i : Nat} {T : Tgt} {cs : List Value} {v : Value} (hb : H.get b = some (.cells cs e false)) (hm : μ b = some T) (hv : cs[i]? = some v) :
    W.frozen? ⟨T.c, T.d + i, none⟩ = false := by
  obtain ⟨v', hc', _⟩ := h.cell hb hm hv
  obtain ⟨o', ho', hr⟩ := h.obj b _ hb T hm
  cases hr with
  | cells _ _ _ a t lo hi he hc hr hf =>
    simp only [World.cell?, ho'] at hc'
    simp only [World.frozen?, ho']
    have hlt : T.d + i < a.size := by
      rcases Nat.lt_or_ge (T.d + i) a.size with hh | hh
      · exact hh
      · rw [Array.getElem?_eq_none hh] at hc'; simp at hc'
    have := hf rfl (T.d + i) (.inl hlt)
    simp only [Bool.and_eq_false_iff, decide_eq_false_iff_not]
    omega

/-- Reading a row of cells. -/
theorem HRel.row (h : HRel base W0 μ H W) {b e off : Nat} {T : Tgt} {cs l : List Value} {ro : Bool} (hb : H.get b = some (.cells cs e ro)) (hm : μ b = some T) (hl : (cs.drop off).take l.length = l) (P : Program) :
    ∃ l', LRel μ l l' ∧ (loadCells ⟨T.c, T.d + off, none⟩ l.length).run P W = .ok l'.toArray W ∧ ∀ j v, l'[j]? = some v → W.cell? ⟨T.c, T.d + off + j, none⟩ = some v := by
  have key : ∀ (n : Nat) (l : List Value), l.length = n → (∀ j v, l[j]? = some v → cs[off + j]? = some v) → ∃ l', LRel μ l l' ∧ ∀ j v, l'[j]? = some v → W.cell? ⟨T.c, T.d + off + j, none⟩ = some v := by
    intro n
    induction n with
    | zero =>
      intro l hl _
      obtain rfl := List.eq_nil_of_length_eq_zero hl
      exact ⟨[], .nil, fun j v e => by simp at e⟩
    | succ n ih =>
      intro l hl hj
      obtain ⟨l0, x, rfl⟩ : ∃ l0 x, l = l0 ++ [x] := ⟨l.dropLast, l.getLast (by intro e; subst e; simp at hl), (List.dropLast_concat_getLast _).symm⟩
      simp at hl
      obtain ⟨l', h1, h2⟩ := ih l0 hl fun j v e => hj j v (by
        rw [List.getElem?_append_left (by have := (List.getElem?_eq_some_iff.1 e).1; exact this)]; exact e)
      obtain ⟨x', h3, h4⟩ := h.cell hb hm (hj l0.length x (by simp))
      refine ⟨l' ++ [x'], h1.append (.cons h4 .nil), fun j v e => ?_⟩
      rcases Nat.lt_or_ge j l'.length with hlt | hge
      · rw [List.getElem?_append_left hlt] at e; exact h2 j v e
      · rw [List.getElem?_append_right hge] at e
        have hz : j - l'.length = 0 := by
          rcases Nat.eq_zero_or_pos (j - l'.length) with e0 | e0
          · exact e0
          · rw [List.getElem?_eq_none (by simp; omega)] at e; cases e
        rw [hz] at e; simp at e; subst e
        have : j = l0.length := by have := h1.length; omega
        subst this
        rw [Nat.add_assoc]; exact h3
  obtain ⟨l', h1, h2⟩ := key l.length l rfl (fun j v e => by
    rw [← hl, List.getElem?_take] at e
    split at e
    · rwa [List.getElem?_drop] at e
    · cases e)
  refine ⟨l', h1, ?_, h2⟩
  rw [h1.length]
  exact run_loadCells_list W _ l' fun j v e => by
    have := h2 j v e
    have hadd : (⟨T.c, T.d + off, none⟩ : Addr).add j = ⟨T.c, T.d + off + j, none⟩ := by unfold Addr.add; split <;> simp_all
    rw [hadd]; exact this

theorem drop_take_set (c : List Value) (d n i : Nat) (v : Value) (hi : i < n) : ((c.set (d + i) v).drop d).take n = ((c.drop d).take n).set i v := by
  apply List.ext_getElem?
  intro j
  rw [List.getElem?_take, List.getElem?_drop, List.getElem?_set, List.getElem?_set, List.getElem?_take, List.getElem?_drop]
  by_cases hj : j < n <;> by_cases e : i = j
  · subst e; simp [hj]
    by_cases hs : d + i < c.length
    · simp [hs]; omega
    · simp [hs]; omega
  · simp [hj, e]
  · omega
  · simp [hj, e]

theorem LRel.set' {μ : Inj} {l l' : List Value} (h : LRel μ l l') (i : Nat) {v v' : Value} (hv : VRel μ v v') : LRel μ (l.set i v) (l'.set i v') := h.set i hv

/-- Writing a cell. -/
theorem HRel.store1 (h : HRel base W0 μ H W) {b e i : Nat} {T : Tgt} {cs : List Value} {v v' : Value} (hb : H.get b = some (.cells cs e false)) (hm : μ b = some T) (hi : i < cs.length) (hv : VRel μ v v') :
    HRel base W0 μ (H.put b (.cells (cs.set i v) e false)) (W.setCell ⟨T.c, T.d + i, none⟩ v') ∧ Evolve μ H μ (H.put b (.cells (cs.set i v) e false)) := by
  obtain ⟨o', ho', hr⟩ := h.obj b _ hb T hm
  cases hr with
  | cells _ _ _ a t lo hi' he hc hr hf =>
    refine h.update (o1' := .cells (a.setIfInBounds (T.d + i) v') t (lo, hi')) hb rfl hm (by simp) (fun j hj => ?_) ?_ ?_ rfl rfl
    · simp only [World.setCell, Array.getElem?_modify]
      rw [if_neg (Ne.symm hj)]
    · simp only [World.setCell, Array.getElem?_modify, if_true, ho']
      rfl
    · refine .cells T _ _ false _ t lo hi' he ?_ (by simpa using hr) (fun _ j hj => hf rfl j (by simpa using hj))
      have hlen := hc.length
      rw [List.length_set, Array.toList_setIfInBounds, drop_take_set _ _ _ _ _ hi]
      exact hc.set i hv

theorem put_put (H : IHeap) (b : Nat) (x y : IObj) : (H.put b x).put b y = H.put b y := by
  unfold IHeap.put Tr.put
  have : ∀ (p : Pth) (t : Tr IObj), (t.setP (some x) p).setP (some y) p = t.setP (some y) p := by
    intro p
    induction p with
    | e => intro t; cases t <;> rfl
    | z p ih => intro t; cases t with
      | leaf => show Tr.node (((Tr.leaf).setP (some x) p).setP (some y) p) none .leaf = _; rw [ih]; rfl
      | node l v r => show Tr.node ((l.setP (some x) p).setP (some y) p) v r = _; rw [ih]; rfl
    | o p ih => intro t; cases t with
      | leaf => show Tr.node .leaf none (((Tr.leaf).setP (some x) p).setP (some y) p) = _; rw [ih]; rfl
      | node l v r => show Tr.node l v ((r.setP (some x) p).setP (some y) p) = _; rw [ih]; rfl
  simp [this]

def splice (cs : List Value) (i : Nat) (l : List Value) : List Value := cs.take i ++ (l ++ cs.drop (i + l.length))

theorem splice_cons (cs : List Value) (i : Nat) (v : Value) (l : List Value) (h : i + (l.length + 1) ≤ cs.length) : splice cs i (v :: l) = splice (cs.set i v) (i + 1) l := by
  induction i generalizing cs with
  | zero =>
    cases cs with
    | nil => simp at h
    | cons x cs => simp [splice, Nat.add_comm 1]
  | succ i ih =>
    cases cs with
    | nil => simp at h
    | cons x cs =>
      have := ih cs (by simp at h; omega)
      simp only [splice, List.set_cons_succ, List.take_succ_cons, List.length_cons] at this ⊢
      rw [show i + 1 + (l.length + 1) = (i + (l.length + 1)) + 1 by omega, show i + 1 + 1 + l.length = (i + 1 + l.length) + 1 by omega, List.drop_succ_cons, List.drop_succ_cons]
      exact congrArg (List.cons x) this

theorem splice_nil (cs : List Value) (i : Nat) : splice cs i [] = cs := by simp [splice]

def okCell : Value → Bool
  | .agg _ | .tuple _ | .chan _ => false
  | _ => true
theorem okCell_rel {v v' : Value} (h : VRel μ v v') (ho : okCell v = true) : v'.oneCell' = true := by
  cases h <;> first | rfl | (simp [okCell, junk] at ho)

/-- Writing a row of cells. -/
theorem HRel.stores (P : Program) {b e : Nat} {T : Tgt} (hm : μ b = some T) : ∀ (l l' : List Value) (H : IHeap) (W : World) (cs : List Value) (i k : Nat), HRel base W0 μ H W → H.get b = some (.cells cs e false) → LRel μ l l' → l.all okCell = true →
    i + k + l.length ≤ cs.length → ∃ W', (storeCells ⟨T.c, T.d + i, none⟩ l' k).run P W = .ok () W' ∧ HRel base W0 μ (H.put b (.cells (splice cs (i + k) l) e false)) W' ∧ Evolve μ H μ (H.put b (.cells (splice cs (i + k) l) e false)) := by
  intro l
  induction l with
  | nil =>
    intro l' H W cs i k h hb hl _ _
    cases hl
    refine ⟨W, rfl, ?_⟩
    rw [splice_nil]
    obtain ⟨o', ho', hr⟩ := h.obj b _ hb T hm
    exact h.update hb rfl hm rfl (fun _ _ => rfl) ho' hr rfl rfl
  | cons v l ih =>
    intro l' H W cs i k h hb hl hok hlen
    cases hl with
    | @cons _ v' _ l' hv ht =>
      simp only [List.all_cons, Bool.and_eq_true] at hok
      simp only [List.length_cons] at hlen
      have hadd : (⟨T.c, T.d + i, none⟩ : Addr).add k = ⟨T.c, T.d + (i + k), none⟩ := by unfold Addr.add; split <;> simp_all; omega
      have hget : cs[i + k]? = some (cs[i + k]'(by omega)) := List.getElem?_eq_getElem (by omega)
      obtain ⟨u, hu, _⟩ := h.cell hb hm hget
      have hfz := h.frozen hb hm hget
      have hst : (store ((⟨T.c, T.d + i, none⟩ : Addr).add k) v').run P W = .ok () (W.setCell ⟨T.c, T.d + (i + k), none⟩ v') := by
        rw [hadd, run_store P W _ v' _ (okCell_rel hv hok.1)]
        simp [hu, hfz]
      obtain ⟨h1, e1⟩ := h.store1 (v := v) hb hm (i := i + k) (by omega) hv
      obtain ⟨W', hw, h2, e2⟩ := ih l' _ _ (cs.set (i + k) v) i (k + 1) h1 (by rw [IHeap.get_put, if_pos rfl]) ht hok.2 (by simp; omega)
      refine ⟨W', ?_, ?_, ?_⟩
      · simp only [storeCells, Sem.run_bind, hst, Result.andThen_ok, hw]
      · rw [put_put] at h2; rw [splice_cons _ _ _ _ (by omega)]; exact h2
      · have := e1.trans e2
        rw [put_put] at this; rw [splice_cons _ _ _ _ (by omega)]; exact this

end
end Go.Ideal
