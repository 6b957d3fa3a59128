/-
  Part of the proof: the machine that runs a program by fixed orders, and that each of its runs is a run of the model; or a run of it in parts. No conditions.
-/
import Derived.Test.YtjaogllgillaiaaGreatDoorIdIop
namespace Go.Ideal

inductive PE where
  | op (i : Nat) (o : Oper)
  | chk (i : Nat) (o : Oper)

inductive IItem where
  | code (c : Code)
  | inBlock (id : Nat)
  | inLoop (body : Code)
  | inScope (body : Code)
  | reg (ops : Array Oper) (l : List Oper)
  | dreg (ops : Array Oper) (plan : List PE)
  | inRangeFunc (loop : Nat)
  | endRangeFunc (loop : Nat)
  | beginRound

structure IFrame where
  fn : FuncId
  tmps : Tr Value
  n : Nat
  todo : List IItem
  defers : List Deferred
  ret : Bool
  kind : CallKind
  round : Option Nat

structure Cfg where
  fr : IFrame
  cs : List IFrame
  H : IHeap

abbrev IFun := List Value → IHeap → Option (Value × IHeap)

structure Ctx where
  P : Program
  laid : List (Nat × List Value)
  intr : FuncId → Option IFun
  plan : Array Oper → Option (List PE)

noncomputable def ieval (X : Ctx) (t : Tr Value) : Operand → Value
  | .tmp i => look t i
  | .const v => bif flat v then v else junk
  | .global g => bif X.laid.any (fun p => Nat.beq g p.1) then .pointer (some ⟨g, 0, none⟩) else junk
  | .func f => .func (.func f) ⟨[]⟩ ⟨[]⟩

/-! Whether two values are the same. -/
def sameAd : Option Addr → Option Addr → Bool
  | none, none => true
  | some ⟨b, o, none⟩, some ⟨c, p, none⟩ => Nat.beq b c && Nat.beq o p
  | _, _ => false
def sameFn : Fn → Fn → Bool
  | .func f, .func g => Nat.beq f g
  | .yield f, .yield g => Nat.beq f g
  | _, _ => false
def sameON : Option Nat → Option Nat → Bool
  | none, none => true
  | some a, some b => Nat.beq a b
  | _, _ => false
def sameL (f : Value → Value → Bool) : List Value → List Value → Bool
  | [], [] => true
  | a :: l, b :: m => f a b && sameL f l m
  | _, _ => false
def sameN : Nat → Value → Value → Bool
  | 0, _, _ => false
  | n + 1, a, b => match a, b with
    | .bool a, .bool b => a == b
    | .int j a, .int k b => decide (j = k) && decide (a = b)
    | .string a, .string b => a.data.toList == b.data.toList
    | .pointer a, .pointer b => sameAd a b
    | .slice a l c, .slice b m d => sameAd a b && Nat.beq l m && Nat.beq c d
    | .map a, .map b => sameON a b
    | .nilFunc, .nilFunc => true
    | .nilIface, .nilIface => true
    | .iface t v, .iface u w => Nat.beq t u && sameN n v w
    | .agg a, .agg b => sameL (sameN n) a.toList b.toList
    | .tuple a, .tuple b => sameL (sameN n) a.toList b.toList
    | .func f a b, .func g c d => sameFn f g && sameL (sameN n) a.toList c.toList && sameL (sameN n) b.toList d.toList
    | _, _ => false
theorem sameAd_eq : ∀ {a b : Option Addr}, sameAd a b = true → a = b := by
  intro a b h
  unfold sameAd at h
  split at h
  · rfl
  · simp only [Bool.and_eq_true] at h
    rw [Nat.eq_of_beq_eq_true h.1, Nat.eq_of_beq_eq_true h.2]
  · cases h
theorem sameFn_eq {a b : Fn} (h : sameFn a b = true) : a = b := by
  unfold sameFn at h
  split at h
  · rw [Nat.eq_of_beq_eq_true h]
  · rw [Nat.eq_of_beq_eq_true h]
  · cases h
theorem sameON_eq {a b : Option Nat} (h : sameON a b = true) : a = b := by
  unfold sameON at h
  split at h
  · rfl
  · rw [Nat.eq_of_beq_eq_true h]
  · cases h
theorem sameL_eq {f : Value → Value → Bool} (hf : ∀ a b, f a b = true → a = b) : ∀ (l m : List Value), sameL f l m = true → l = m
  | [], [], _ => rfl
  | a :: l, b :: m, h => by
    simp only [sameL, Bool.and_eq_true] at h
    rw [hf a b h.1, sameL_eq hf l m h.2]
  | [], _ :: _, h => by simp [sameL] at h
  | _ :: _, [], h => by simp [sameL] at h
theorem sameN_eq : ∀ (n : Nat) (a b : Value), sameN n a b = true → a = b := by
  intro n
  induction n with
  | zero => intro a b h; simp [sameN] at h
  | succ n ih =>
    intro a b h
    unfold sameN at h
    split at h
    · rw [eq_of_beq h]
    · simp only [Bool.and_eq_true, decide_eq_true_eq] at h; rw [h.1, h.2]
    · rename_i a b
      have := Array.toList_inj.1 (eq_of_beq h)
      obtain ⟨a⟩ := a
      obtain ⟨b⟩ := b
      simp only at this
      rw [this]
    · rw [sameAd_eq h]
    · simp only [Bool.and_eq_true] at h
      rw [sameAd_eq h.1.1, Nat.eq_of_beq_eq_true h.1.2, Nat.eq_of_beq_eq_true h.2]
    · rw [sameON_eq h]
    · rfl
    · rfl
    · simp only [Bool.and_eq_true] at h
      rw [Nat.eq_of_beq_eq_true h.1, ih _ _ h.2]
    · rw [Array.toList_inj.1 (sameL_eq ih _ _ h)]
    · rw [Array.toList_inj.1 (sameL_eq ih _ _ h)]
    · simp only [Bool.and_eq_true] at h
      rw [sameFn_eq h.1.1, Array.toList_inj.1 (sameL_eq ih _ _ h.1.2), Array.toList_inj.1 (sameL_eq ih _ _ h.2)]
    · cases h

/-! Forcing. -/
noncomputable def forceInt {α : Type} (n : Int) (k : Int → α) : α :=
  Int.casesOn n (fun m => Nat.casesOn (motive := fun _ => α) m (k (.ofNat 0)) fun p => k (.ofNat (p + 1))) (fun m => Nat.casesOn (motive := fun _ => α) m (k (.negSucc 0)) fun p => k (.negSucc (p + 1)))
theorem forceInt_eq {α : Type} (n : Int) (k : Int → α) : forceInt n k = k n := by
  cases n with
  | ofNat m => cases m <;> rfl
  | negSucc m => cases m <;> rfl
noncomputable def forceV {α : Type} (v : Value) (k : Value → α) : α :=
  match v with
  | .int kd n => forceInt n fun n => k (.int kd n)
  | .bool b => bif b then k (.bool true) else k (.bool false)
  | v => k v
theorem forceV_eq {α : Type} (v : Value) (k : Value → α) : forceV v k = k v := by
  unfold forceV
  split
  · rw [forceInt_eq]
  · rename_i b; cases b <;> rfl
  · rfl

/-- The value of an operation, or of a call, comes back. -/
noncomputable def finishI (f : IFrame) (v : Value) : Option IFrame :=
  forceV v fun v =>
  match f with
  | ⟨fn, t, n, todo, ds, r, kd, rd⟩ =>
    match todo with
    | .reg ops (o :: rest) :: k =>
      match o.dst with
      | some d => bif Nat.blt d n then some ⟨fn, t.put d (some v), n, .reg ops rest :: k, ds, r, kd, rd⟩ else none
      | none => some ⟨fn, t, n, .reg ops rest :: k, ds, r, kd, rd⟩
    | .dreg ops (.op _ o :: rest) :: k =>
      match o.dst with
      | some d => bif Nat.blt d n then some ⟨fn, t.put d (some v), n, .dreg ops rest :: k, ds, r, kd, rd⟩ else none
      | none => some ⟨fn, t, n, .dreg ops rest :: k, ds, r, kd, rd⟩
    | .inRangeFunc l :: k => some ⟨fn, t, n, .endRangeFunc l :: k, ds, r, kd, rd⟩
    | .beginRound :: k => some ⟨fn, t, n, k, ds, r, kd, rd⟩
    | _ => none

def iexitTo (id : Nat) : List IItem → Option (List IItem)
  | [] => none
  | x :: k => match x with
    | .inBlock id' => bif Nat.beq id' id then some k else iexitTo id k
    | _ => iexitTo id k

/-- Arguments into the first slots. -/
noncomputable def fillTmps : Nat → List Value → Tr Value → Tr Value
  | _, [], t => t
  | i, v :: r, t => fillTmps (i + 1) r (t.put i (some v))

/-- What a function is entered with: how many slots, and its body. -/
def entry (P : Program) (f : FuncId) : Option (Nat × Code) :=
  match P.funcs[f]? with
  | some fn => match fn.body with
    | some c => bif fn.name == "runtime.NumGoroutine" then none else some (fn.ntmps, c)
    | none => none
  | none => none

/-- What a function that is known by what it does gives; none: its body is run. -/
noncomputable def intrAt (X : Ctx) (f : FuncId) (args : List Value) (kind : CallKind) (H : IHeap) : Option (Value × IHeap) :=
  match X.intr f with
  | some F => match kind with
    | .normal => F args H
    | _ => none
  | none => none

noncomputable def enterI (X : Ctx) (f : FuncId) (args : List Value) (kind : CallKind) (fr : IFrame) (cs : List IFrame) (H : IHeap) : Option Cfg :=
  match intrAt X f args kind H with
  | some (v, H') => match finishI fr v with
    | some fr' => some ⟨fr', cs, H'⟩
    | none => none
  | none => match entry X.P f with
    | some (n, c) => bif Nat.ble args.length n then some ⟨⟨f, fillTmps 0 args .leaf, n, [.code c], [], false, kind, none⟩, fr :: cs, H⟩ else none
    | none => match kind with
      | .normal => bif args.all flat then
          match pureRun X.P (callFunc f ⟨args⟩) with
          | some (.value v) => bif flat v then
              match finishI fr v with
              | some fr' => some ⟨fr', cs, H⟩
              | none => none
            else none
          | _ => none
        else none
      | _ => none

noncomputable def setParams : List Tmp → List Value → Tr Value → Tr Value
  | p :: ps, v :: vs, t => setParams ps vs (t.put p (some v))
  | _, _, t => t

noncomputable def yieldI (l : Nat) (args : List Value) (fr : IFrame) (cs : List IFrame) (H : IHeap) : Option Cfg :=
  match H.get l with
  | some (.loop r) => bif Nat.beq args.length r.params.size && r.params.toList.all (fun p => Nat.blt p r.n) then
      some ⟨⟨r.fn, setParams r.params.toList args r.tmps, r.n, [.code r.assign, .beginRound, .code r.body], [], false, .normal, some l⟩, fr :: cs, H⟩ else none
  | _ => none

noncomputable def callI (X : Ctx) (f : Value) (args : List Value) (fr : IFrame) (cs : List IFrame) (H : IHeap) : Option Cfg :=
  match f with
  | .func (.func g) first captured => enterI X g (first.toList ++ args ++ captured.toList) .normal fr cs H
  | .func (.yield l) first _ => yieldI l (first.toList ++ args) fr cs H
  | _ => none

/-- A value goes back to the caller. -/
noncomputable def returnI (kind : CallKind) (v : Value) (cs : List IFrame) (H : IHeap) : Option Cfg :=
  match cs with
  | [] => none
  | c :: rest => match kind with
    | .normal => match finishI c v with
      | some c' => some ⟨c', rest, H⟩
      | none => none
    | .deferred => bif c.ret then some ⟨c, rest, H⟩ else none
    | _ => none

noncomputable def leaveI (jump : Option Code) (fr : IFrame) (cs : List IFrame) (H : IHeap) : Option Cfg :=
  match fr with
  | ⟨fn, t, n, todo, ds, _, kd, rd⟩ =>
    match rd with
    | none => match jump with
      | none => some ⟨⟨fn, t, n, todo, ds, true, kd, none⟩, cs, H⟩
      | some .ret => some ⟨⟨fn, t, n, todo, ds, true, kd, none⟩, cs, H⟩
      | _ => none
    | some l => match H.get l with
      | some (.loop r) => match jump with
        | none => returnI kd (.bool true) cs (H.put l (.loop { r with state := .ready, pending := none }))
        | some j => returnI kd (.bool false) cs (H.put l (.loop { r with state := .done, pending := some j }))
      | _ => none

def guardVal (ops : Array Oper) (j : Nat) : Option Tmp :=
  match ops.toList[j]? with
  | some o => o.dst
  | none => none
noncomputable def wantedI (ops : Array Oper) (o : Oper) (t : Tr Value) : Option Bool :=
  match o.guard with
  | none => some true
  | some (j, want) => match guardVal ops j with
    | some d => match look t d with
      | .bool b => some (bif want then b else !b)
      | .tuple _ => some false
      | _ => none
    | none => some false

def isRec : Builtin → Bool
  | .recover => true
  | _ => false
/-- Nothing is recovered: nobody panics. -/
noncomputable def recI (fr : IFrame) (cs : List IFrame) (H : IHeap) : Option Cfg :=
  match fr.round with
  | some _ => none
  | none => match fr.kind with
    | .normal => match finishI fr .nilIface with
      | some fr' => some ⟨fr', cs, H⟩
      | none => none
    | .deferred => match cs with
      | [] => none
      | _ :: _ => match finishI fr .nilIface with
        | some fr' => some ⟨fr', cs, H⟩
        | none => none
    | _ => none
noncomputable def operI (X : Ctx) (o : Oper) (fr : IFrame) (cs : List IFrame) (H : IHeap) : Option Cfg :=
  match o.op with
  | .call c => match c.callee with
    | .builtin b => bif isRec b then recI fr cs H else match iop X.P (ieval X fr.tmps) o H with
      | some (v, H') => match finishI fr v with
        | some fr' => some ⟨fr', cs, H'⟩
        | none => none
      | none => none
    | .value f => callI X (ieval X fr.tmps f) (c.args.toList.map (ieval X fr.tmps)) fr cs H
    | _ => none
  | .defer c => match fr.round, c.callee with
    | none, .value f => match ieval X fr.tmps f with
      | .func fn first captured => match finishI { fr with defers := { target := .fn fn captured, args := ⟨first.toList ++ c.args.toList.map (ieval X fr.tmps)⟩ } :: fr.defers } Go.undef with
        | some fr' => some ⟨fr', cs, H⟩
        | none => none
      | _ => none
    | _, _ => none
  | _ => match iop X.P (ieval X fr.tmps) o H with
    | some (v, H') => match finishI fr v with
      | some fr' => some ⟨fr', cs, H'⟩
      | none => none
    | none => none

noncomputable def valOf (X : Ctx) (t : Tr Value) (H : IHeap) : ResultVar → Option Value
  | .tmp i => some (look t i)
  | .cell a ty => iload X.P ty (look t a) H
noncomputable def valsOf (X : Ctx) (t : Tr Value) (H : IHeap) : List ResultVar → Option (List Value)
  | [] => some []
  | r :: rs => match valOf X t H r, valsOf X t H rs with
    | some v, some l => some (v :: l)
    | _, _ => none
noncomputable def resultsI (X : Ctx) (f : FuncId) (t : Tr Value) (H : IHeap) : Option Value :=
  match X.P.funcs[f]? with
  | some fn => match valsOf X t H fn.results.toList with
    | some [v] => some v
    | some l => some (.tuple ⟨l⟩)
    | none => none
  | none => none

noncomputable def stepRet (X : Ctx) (fr : IFrame) (cs : List IFrame) (H : IHeap) : Option Cfg :=
  match fr with
  | ⟨fn, t, n, todo, ds, r, kd, rd⟩ =>
    match ds with
    | [] => match resultsI X fn t H with
      | some v => returnI kd v cs H
      | none => none
    | d :: rest => match d with
      | ⟨tgt, args⟩ => match tgt with
        | .collected b => match H.get b with
          | some (.deferred (some l)) => some ⟨⟨fn, t, n, todo, l ++ rest, r, kd, rd⟩, cs, H.put b (.deferred none)⟩
          | _ => none
        | .fn (.func g) captured => enterI X g (args.toList ++ captured.toList) .deferred ⟨fn, t, n, todo, rest, r, kd, rd⟩ cs H
        | _ => none

noncomputable def stepI (X : Ctx) (c : Cfg) : Option Cfg :=
  match c with
  | ⟨⟨fn, t, n, todo, ds, r, kd, rd⟩, cs, H⟩ =>
    bif r then stepRet X ⟨fn, t, n, todo, ds, r, kd, rd⟩ cs H else
    match todo with
    | [] => leaveI none ⟨fn, t, n, todo, ds, r, kd, rd⟩ cs H
    | it :: k =>
      match it with
      | .reg ops l => match l with
        | [] => some ⟨⟨fn, t, n, k, ds, r, kd, rd⟩, cs, H⟩
        | o :: _ => match wantedI ops o t with
          | some true => operI X o ⟨fn, t, n, todo, ds, r, kd, rd⟩ cs H
          | some false => match finishI ⟨fn, t, n, todo, ds, r, kd, rd⟩ Go.undef with
            | some fr' => some ⟨fr', cs, H⟩
            | none => none
          | none => none
      | .dreg ops l => match l with
        | [] => some ⟨⟨fn, t, n, k, ds, r, kd, rd⟩, cs, H⟩
        | .chk _ o :: rest => match wantedI ops o t with
          | some true => match o.dst, iop X.P (ieval X t) o H with
            | some d, some (v, _) => bif sameN 8 v (look t d) then some ⟨⟨fn, t, n, .dreg ops rest :: k, ds, r, kd, rd⟩, cs, H⟩ else none
            | _, _ => none
          | some false => some ⟨⟨fn, t, n, .dreg ops rest :: k, ds, r, kd, rd⟩, cs, H⟩
          | none => none
        | .op _ o :: _ => match wantedI ops o t with
          | some true => operI X o ⟨fn, t, n, todo, ds, r, kd, rd⟩ cs H
          | some false => match finishI ⟨fn, t, n, todo, ds, r, kd, rd⟩ Go.undef with
            | some fr' => some ⟨fr', cs, H⟩
            | none => none
          | none => none
      | .code c => match c with
        | .seq a b => some ⟨⟨fn, t, n, .code a :: .code b :: k, ds, r, kd, rd⟩, cs, H⟩
        | .region _ ops false => some ⟨⟨fn, t, n, .reg ops ops.toList :: k, ds, r, kd, rd⟩, cs, H⟩
        | .region _ ops true => match X.plan ops with
          | some p => some ⟨⟨fn, t, n, .dreg ops p :: k, ds, r, kd, rd⟩, cs, H⟩
          | none => none
        | .cond c a b => match ieval X t c with
          | .bool x => some ⟨⟨fn, t, n, .code (bif x then a else b) :: k, ds, r, kd, rd⟩, cs, H⟩
          | _ => none
        | .skip => some ⟨⟨fn, t, n, k, ds, r, kd, rd⟩, cs, H⟩
        | .label _ => some ⟨⟨fn, t, n, k, ds, r, kd, rd⟩, cs, H⟩
        | .block id b => some ⟨⟨fn, t, n, .code b :: .inBlock id :: k, ds, r, kd, rd⟩, cs, H⟩
        | .loop b => some ⟨⟨fn, t, n, .code b :: .inLoop b :: k, ds, r, kd, rd⟩, cs, H⟩
        | .scope b => some ⟨⟨fn, t, n, .code b :: .inScope b :: k, ds, r, kd, rd⟩, cs, H⟩
        | .exit id => match iexitTo id k with
          | some k' => some ⟨⟨fn, t, n, k', ds, r, kd, rd⟩, cs, H⟩
          | none => leaveI (some (.exit id)) ⟨fn, t, n, todo, ds, r, kd, rd⟩ cs H
        | .ret => leaveI (some .ret) ⟨fn, t, n, todo, ds, r, kd, rd⟩ cs H
        | .rangeFunc f params assign body =>
          match rd with
          | some l => match H.get l with
            | some (.loop q) =>
              callI X (ieval X t f) [.func (.yield H.next) ⟨[]⟩ ⟨[]⟩] ⟨fn, t, n, .inRangeFunc H.next :: k, ds, r, kd, rd⟩ cs
                (H.alloc (.loop ⟨.ready, none, fn, t, n, params, assign, body, q.defers⟩))
            | _ => none
          | none =>
            callI X (ieval X t f) [.func (.yield (H.next + 1)) ⟨[]⟩ ⟨[]⟩] ⟨fn, t, n, .inRangeFunc (H.next + 1) :: k, { target := .collected H.next, args := ⟨[]⟩ } :: ds, r, kd, rd⟩ cs
              ((H.alloc (.deferred (some []))).alloc (.loop ⟨.ready, none, fn, t, n, params, assign, body, H.next⟩))
        | _ => none
      | .inBlock _ => some ⟨⟨fn, t, n, k, ds, r, kd, rd⟩, cs, H⟩
      | .inScope _ => some ⟨⟨fn, t, n, k, ds, r, kd, rd⟩, cs, H⟩
      | .inLoop b => some ⟨⟨fn, t, n, .code b :: .inLoop b :: k, ds, r, kd, rd⟩, cs, H⟩
      | .beginRound => match rd with
        | some l => match H.get l with
          | some (.loop q) => match q.state with
            | .ready => some ⟨⟨fn, t, n, k, ds, r, kd, rd⟩, cs, H.put l (.loop { q with state := .busy })⟩
            | _ => none
          | _ => none
        | none => none
      | .endRangeFunc l => match H.get l with
        | some (.loop q) => match q.state with
          | .busy => none
          | _ => match q.pending with
            | none => some ⟨⟨fn, t, n, k, ds, r, kd, rd⟩, cs, H.put l (.loop { q with state := .exhausted })⟩
            | some j => some ⟨⟨fn, t, n, .code j :: k, ds, r, kd, rd⟩, cs, H.put l (.loop { q with state := .exhausted })⟩
        | _ => none
      | .inRangeFunc _ => none

/-- The last frame has returned. -/
noncomputable def doneI (X : Ctx) (c : Cfg) : Option (Value × IHeap) :=
  match c with
  | ⟨⟨fn, t, _, _, ds, r, kd, _⟩, cs, H⟩ =>
    match cs, ds, r, kd with
    | [], [], true, .normal => match resultsI X fn t H with
      | some v => some (v, H)
      | none => none
    | _, _, _, _ => none

noncomputable def runI (X : Ctx) (fuel : Nat) : Cfg → Option Cfg :=
  Nat.rec (motive := fun _ => Cfg → Option Cfg) (fun c => some c) (fun _ ih c => match stepI X c with
    | some c' => ih c'
    | none => none) fuel

end Go.Ideal
