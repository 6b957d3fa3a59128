/-
  Part of the proof: the machine that runs a program by fixed orders, and that each of its runs is a run of the model; or a run of it in parts. No conditions.
-/
import Derived.Test.YtjaogllgillaiaaGreatDoorIdOps5
namespace Go.Ideal
section
variable {P : Program} {base : Env} {W0 : World} {μ : Inj} {H : IHeap} {W : World}

/-! string(b), []byte(s) -/
def byteOfV : Value → Option Int
  | .int .u8 n => some n
  | _ => none
def bytesOfL : List Value → Option (List Int)
  | [] => some []
  | v :: r => match byteOfV v, bytesOfL r with
    | some n, some l => some (n :: l)
    | _, _ => none
theorem bytesOfL_eq : ∀ (l : List Value) (ns : List Int), bytesOfL l = some ns → l = ns.map (Value.int .u8)
  | [], ns, h => by simp [bytesOfL] at h; subst h; rfl
  | v :: r, ns, h => by
    simp only [bytesOfL] at h
    cases hv : byteOfV v with
    | none => simp [hv] at h
    | some n =>
      cases hr : bytesOfL r with
      | none => simp [hv, hr] at h
      | some l =>
        simp only [hv, hr, Option.some.injEq] at h
        subst h
        have : v = .int .u8 n := by
          unfold byteOfV at hv
          split at hv
          · cases hv; rfl
          · cases hv
        rw [this, bytesOfL_eq r l hr]; rfl
theorem ints_rel : ∀ (ns : List Int) (l' : List Value), LRel μ (ns.map (Value.int .u8)) l' → l' = ns.map (Value.int .u8)
  | [], l', h => by cases h; rfl
  | n :: ns, l', h => by
    simp only [List.map_cons] at h ⊢
    cases h with
    | cons hv ht => cases hv; rw [ints_rel ns _ ht]
theorem foldl_push : ∀ (ns : List Int) (r : ByteArray), ns.foldl (fun r n => r.push (UInt8.ofNat n.toNat)) r = ⟨⟨r.data.toList ++ ns.map fun n => UInt8.ofNat n.toNat⟩⟩
  | [], r => by simp
  | n :: ns, r => by
    rw [List.foldl_cons, foldl_push ns]
    simp [ByteArray.push, Array.push]

noncomputable def iconvert (P : Program) (src dst : TypeId) (x : Value) (H : IHeap) : Option (Value × IHeap) :=
  match P.underlying src, P.underlying dst, x with
  | some (.slice e), some .string, .slice a n c =>
    match P.underlying e with
    | some (.int .u8) =>
      match a with
      | none => some (.string ⟨⟨[]⟩⟩, H)
      | some _ =>
        match isrc 1 (.slice a n c) H with
        | some (_, l) => match bytesOfL l with
          | some ns => some (.string ⟨⟨ns.map fun n => UInt8.ofNat n.toNat⟩⟩, H)
          | none => none
        | none => none
    | _ => none
  | some .string, some (.slice e), .string s =>
    match P.underlying e with
    | some (.int .u8) => some (.slice (some ⟨H.next, 0, none⟩) s.size (capU + s.size), H.alloc (.cells (s.data.toList.map fun b => .int .u8 b.toNat) 1 false))
    | _ => none
  | _, _, _ => none

def bytesArr (s : ByteArray) (cap : Nat) : Array Value := (s.data.map fun b => Value.int .u8 b.toNat) ++ Array.replicate (cap - s.size) (Value.int .u8 0)
theorem bytesArr_size {s : ByteArray} {cap : Nat} (h : s.size ≤ cap) : (bytesArr s cap).size = cap := by
  have : s.data.size = s.size := rfl
  simp [bytesArr]
  omega

theorem convert_sim (h : HRel base W0 μ H W) {src dst : TypeId} {x x' v : Value} {H' : IHeap} (hx : VRel μ x x') (hi : iconvert P src dst x H = some (v, H')) :
    ∃ μ' v' W', (convert src dst x').run P W = .ok v' W' ∧ HRel base W0 μ' H' W' ∧ VRel μ' v v' ∧ Evolve μ H μ' H' := by
  unfold iconvert at hi
  split at hi
  · rename_i e a n c hu1 hu2
    split at hi
    · rename_i hue
      split at hi
      · cases hi
        cases hx
        refine ⟨μ, _, W, ?_, h, .string _, Evolve.refl _ _⟩
        simp [convert, run_underlying hu1, run_underlying hu2, run_underlying hue, Conv.bytesToString]
        rfl
      · rename_i a0
        split at hi
        · rename_i m l hs
          split at hi
          · rename_i ns hns
            cases hi
            have hl := bytesOfL_eq l ns hns
            obtain ⟨hlen, hll, l', r1, r2⟩ := src_sim (P := P) h hx hs (Nat.le_refl m)
            rw [List.take_of_length_le (by omega), hl] at r1
            have hl' := ints_rel ns l' r1
            subst hl'
            cases hx with
            | vslice => simp [isrc] at hs
            | slice b o _ _ cap' o' T hm hcr ho =>
              have hmn : n = m := by simpa [Builtin.lenOf] using hlen
              subst hmn
              simp only [Builtin.firstCells, Nat.mul_one] at r2
              refine ⟨μ, _, W, ?_, h, .string _, Evolve.refl _ _⟩
              have := run_bytesToString (P := P) W ⟨T.c, o', none⟩ n cap' ns r2
              rw [foldl_push] at this
              simp [convert, run_underlying hu1, run_underlying hu2, run_underlying hue, this]
          · cases hi
        · cases hi
    · cases hi
  · rename_i e s hu1 hu2
    split at hi
    · rename_i hue
      cases hi
      cases hx
      -- the new block
      have hcut : ∃ cap, s.size ≤ cap ∧ (convert src dst (.string s)).run P W = .ok (.slice (some ⟨W.heap.size, 0, none⟩) s.size cap)
          (W.drew.alloc (.cells (bytesArr s cap) e (cap, cap + 1))) := by
        refine ⟨(Question.appendCap s.size 0 e).cut (W.tape W.drawn (.appendCap s.size 0 e)), by simp [Question.cut], ?_⟩
        generalize hq : (Question.appendCap s.size 0 e).cut (W.tape W.drawn (.appendCap s.size 0 e)) = cap
        have hge : s.size ≤ cap := by rw [← hq]; simp [Question.cut]
        have hsize := bytesArr_size hge
        have hf : Question.forced (.appendCap s.size 0 e) = false := rfl
        have hsh : (W.drew.alloc (.cells (bytesArr s cap) e)).shape? W.heap.size = some (e, cap) := by
          unfold World.shape?
          have : (W.drew.alloc (.cells (bytesArr s cap) e)).heap[W.heap.size]? = some (.cells (bytesArr s cap) e) := by
            show (W.heap.push _)[W.heap.size]? = _
            simp
          rw [this]
          simp only [hsize]
        have hfr : (W.drew.alloc (.cells (bytesArr s cap) e)).freeze { block := W.heap.size, off := cap } 1 =
            W.drew.alloc (.cells (bytesArr s cap) e (cap, cap + 1)) := by
          unfold World.freeze
          rw [if_neg (by decide)]
          show World.mk ((W.heap.push _).modify W.heap.size _) _ _ _ _ = World.mk (W.heap.push _) _ _ _ _
          congr 1
          apply Array.ext_getElem?
          intro j
          rw [Array.getElem?_modify, Array.getElem?_push, Array.getElem?_push]
          by_cases hj : W.heap.size = j
          · subst hj; simp
          · simp [hj, Ne.symm hj]
        simp only [convert, run_underlying hu1, run_underlying hu2, run_underlying hue, Sem.run_bind, Result.andThen_ok, Conv.stringToBytes, run_choose, hf, hq, newRow, run_newObj, Sem.run_pure, markStringish, run_shape, Bool.false_eq_true, if_false, World.drew_eq, World.alloc_eq]
        rw [show (W.drew.heap.size) = W.heap.size from rfl]
        have hsh' := hsh
        unfold bytesArr at hsh' hfr
        rw [hsh']
        simp only [run_freeze, Result.andThen_ok]
        rw [hfr]
        rfl
      obtain ⟨cap, hge, hrun⟩ := hcut
      have hal := (h.drawn (W.drawn + 1)).alloc (T := ⟨W.heap.size, 0, cap, 1⟩) (o := .cells (s.data.toList.map fun b => .int .u8 b.toNat) 1 false) (o' := .cells (bytesArr s cap) e (cap, cap + 1)) rfl ?_
      · exact ⟨_, _, _, hrun, hal.1, slice_new _ _ rfl _ _ _ (.inr ⟨by omega, by omega, hge, by show 0 + cap * 1 ≤ cap; omega, .inl rfl⟩), hal.2⟩
      · have hsz : s.data.size = s.size := rfl
        refine .cells ⟨W.heap.size, 0, cap, 1⟩ _ _ false _ e cap (cap + 1) rfl ?_ ?_ ?_
        · simp only [bytesArr, List.drop_zero, Array.toList_append, Array.toList_map, List.length_map, Array.length_toList]
          rw [List.take_append_of_le_length (by simp), List.take_of_length_le (by simp)]
          exact LRel.map _ _ _ fun b _ => .int _ _
        · rw [bytesArr_size hge]; show cap = 0 + cap; omega
        · intro _ j hj
          rw [bytesArr_size hge] at hj
          omega
    · cases hi
  · cases hi

/-! Ranging over a string. -/
noncomputable def irange (P : Program) (t : TypeId) (x : Value) (H : IHeap) : Option (Value × IHeap) :=
  match P.underlying t, x with
  | some .string, .string s => some (.pointer (some ⟨H.next, 0, none⟩), H.alloc (.strIter s 0))
  | _, _ => none
theorem range_sim (h : HRel base W0 μ H W) {t : TypeId} {x x' v : Value} {H' : IHeap} (hx : VRel μ x x') (hi : irange P t x H = some (v, H')) :
    ∃ μ' v' W', (Instr.range t x').run P W = .ok v' W' ∧ HRel base W0 μ' H' W' ∧ VRel μ' v v' ∧ Evolve μ H μ' H' := by
  unfold irange at hi
  split at hi
  · rename_i s hu
    cases hi; cases hx
    have hal := h.alloc (T := ⟨W.heap.size, 0, 0, 0⟩) (o := .strIter s 0) (o' := .stringIter s 0) rfl (.strIter _ s 0 rfl)
    exact ⟨_, _, _, by simp [Instr.range, run_underlying hu], hal.1, ptr_new ⟨W.heap.size, 0, 0, 0⟩ _ rfl, hal.2⟩
  · cases hi

noncomputable def inext (it : Value) (isString : Bool) (H : IHeap) : Option (Value × IHeap) :=
  match it, isString with
  | .pointer (some ⟨r, 0, none⟩), true =>
    match H.get r with
    | some (.strIter s pos) =>
      bif Nat.blt pos s.size then
        match Utf8.decode s pos with
        | (c, width) => some (.tuple ⟨[.bool true, .int .i64 (Int.ofNat pos), .int .i32 c]⟩, H.put r (.strIter s (pos + width)))
      else some (.tuple ⟨[.bool false]⟩, H)
    | _ => none
  | _, _ => none

theorem run_getObj' {w : World} {r : Nat} {o : Obj} (h : w.heap[r]? = some o) (hn : ∀ c t f, o ≠ .cells c t f) : (getObj r).run P w = .ok o w := by
  cases o with
  | cells c t f => exact absurd rfl (hn c t f)
  | _ => simp only [getObj, Sem.run, h]
theorem run_setObj' {w : World} {r : Nat} {o o1 : Obj} (h : w.heap[r]? = some o) (hn : ∀ c t f, o ≠ .cells c t f) : (setObj r o1).run P w = .ok () { w with heap := w.heap.setIfInBounds r o1 } := by
  cases o with
  | cells c t f => exact absurd rfl (hn c t f)
  | _ => simp only [setObj, Sem.run, h]

/-- An object that is no row of cells is changed. -/
theorem HRel.setObj (h : HRel base W0 μ H W) {b : Nat} {T : Tgt} {o o1 : IObj} {o1' : Obj} (hb : H.get b = some o) (hro : o.ro = false) (hm : μ b = some T) (ho : ORel μ T o1 o1') (hna1 : o1.isAbs = false := by rfl) :
    HRel base W0 μ (H.put b o1) { W with heap := W.heap.setIfInBounds T.c o1' } ∧ Evolve μ H μ (H.put b o1) := by
  have hlt := h.bound b T hm
  refine h.update hb hro hm (by simp) (fun i hi => ?_) ?_ ho rfl rfl hna1
  · rw [Array.getElem?_setIfInBounds, if_neg (Ne.symm hi)]
  · rw [Array.getElem?_setIfInBounds]; simp [hlt]

theorem next_sim (h : HRel base W0 μ H W) {it it' v : Value} {isString : Bool} {ty : TypeId} {H' : IHeap} (hx : VRel μ it it') (hi : inext it isString H = some (v, H')) :
    ∃ v' W', (Instr.next it' isString ty).run P W = .ok v' W' ∧ HRel base W0 μ H' W' ∧ VRel μ v v' ∧ Evolve μ H μ H' := by
  unfold inext at hi
  split at hi
  · rename_i r
    cases hx with
    | ptr _ _ T hm =>
      split at hi
      · rename_i s pos hget
        obtain ⟨o', ho', hor⟩ := h.obj r _ hget T hm
        cases hor with
        | strIter _ _ hd0 =>
          have hg := run_getObj' (P := P) ho' (by intro c t f; simp)
          rw [hd0]
          cases hlt : Nat.blt pos s.size
          · simp only [hlt, cond_false, Option.some.injEq, Prod.mk.injEq] at hi
            obtain ⟨rfl, rfl⟩ := hi
            have hnl : ¬ pos < s.size := fun hh => by rw [show Nat.blt pos s.size = true from Nat.ble_eq_true_of_le hh] at hlt; cases hlt
            exact ⟨_, W, by simp [Instr.next, hg, hnl], h, VRel.tuple_iff.2 ⟨_, rfl, .cons (.bool _) .nil⟩, Evolve.refl _ _⟩
          · simp only [hlt, cond_true, Option.some.injEq, Prod.mk.injEq] at hi
            obtain ⟨rfl, rfl⟩ := hi
            have hlt : pos < s.size := Nat.le_of_ble_eq_true hlt
            obtain ⟨g1, g2⟩ := h.setObj (o1 := .strIter s (pos + (Utf8.decode s pos).2)) (o1' := .stringIter s (pos + (Utf8.decode s pos).2)) hget rfl hm (.strIter _ _ _ hd0)
            refine ⟨.tuple #[.bool true, goInt pos, .int .i32 (Utf8.decode s pos).1], _, ?_, g1, VRel.tuple_iff.2 ⟨_, rfl, .cons (.bool _) (.cons (.int _ _) (.cons (.int _ _) .nil))⟩, g2⟩
            simp [Instr.next, hg, hlt, run_setObj' (P := P) (o1 := .stringIter s (pos + (Utf8.decode s pos).2)) ho' (by intro c t f; simp)]
      · cases hi
  · cases hi

/-! x == nil, x != nil -/
def nilKind : Value → Option TypeDesc → Option Bool
  | .pointer a, some (.pointer _) => some a.isNone
  | .slice a _ _, some (.slice _) => some a.isNone
  | .map a, some (.map _ _) => some a.isNone
  | .nilFunc, some (.func _ _ _) => some true
  | .func _ _ _, some (.func _ _ _) => some false
  | _, _ => none
def eqNil (P : Program) (op : BinOp) (t : TypeId) (x y : Value) : Option Value :=
  match nilKind x (P.underlying t), nilKind y (P.underlying t) with
  | some a, some b =>
    bif a || b then
      match op with
      | .eql => some (.bool (a && b))
      | .neq => some (.bool (!(a && b)))
      | _ => none
    else none
  | _, _ => none
theorem nilKind_rel {x x' : Value} {d : Option TypeDesc} {b : Bool} (hx : VRel μ x x') (h : nilKind x d = some b) : nilKind x' d = some b := by
  cases d with
  | none => simp [nilKind] at h
  | some d => cases d <;> cases hx <;> first | exact h | (simp [nilKind, junk] at h; done) | (simpa [nilKind] using h)
theorem equal_nil {t : TypeId} {d : TypeDesc} {x y : Value} {a b : Bool} (hu : P.underlying t = some d) (ha : nilKind x (some d) = some a) (hb : nilKind y (some d) = some b) (hab : (a || b) = true) (w : World) :
    (Op.equal t x y).run P w = .ok (a && b) w := by
  obtain ⟨k0, hd⟩ : ∃ k0, Op.maxDepth = k0 + 1 := ⟨9999, rfl⟩
  unfold Op.equal
  rw [hd]
  clear hd
  cases d <;> cases x <;> simp [nilKind] at ha <;> cases y <;> simp [nilKind] at hb
  · rename_i e p q
    subst ha; subst hb
    cases p <;> cases q <;> simp at hab <;> simp [Op.equalIn, run_underlying hu]
  · rename_i e p _ _ q _ _
    subst ha; subst hb
    cases p <;> cases q <;> simp at hab <;> simp [Op.equalIn, run_underlying hu]
  · rename_i k e p q
    subst ha; subst hb
    cases p <;> cases q <;> simp at hab <;> simp [Op.equalIn, run_underlying hu]
  all_goals (subst ha; subst hb; first | (simp at hab; done) | simp [Op.equalIn, run_underlying hu])
theorem eqNil_run {op : BinOp} {t : TypeId} {x y : Operand} {a b v : Value} (hi : eqNil P op t a b = some v) (w : World) :
    (do eqGuard op t x y a b; binOp op t a b : Sem Value).run P w = .ok v w := by
  unfold eqNil at hi
  cases hu : P.underlying t with
  | none => simp [hu, nilKind] at hi
  | some d =>
    rw [hu] at hi
    cases ha : nilKind a (some d) with
    | none => simp [ha] at hi
    | some p =>
      cases hb : nilKind b (some d) with
      | none => simp [ha, hb] at hi
      | some q =>
        simp only [ha, hb] at hi
        cases hpq : (p || q)
        · simp [hpq] at hi
        · simp only [hpq, cond_true] at hi
          have he := equal_nil hu ha hb hpq w
          have hg : eqGuard op t x y a b = pure () := by
            cases d <;> cases a <;> simp [nilKind] at ha <;> cases b <;> simp [nilKind] at hb <;> simp [eqGuard]
          have hbo : op = .eql ∨ op = .neq := by cases op <;> simp at hi <;> simp
          rw [hg]
          have hbin : ∀ r : BinOp, (r = .eql → binOp r t a b = (do pure (.bool (← Op.equal t a b)))) ∧ (r = .neq → binOp r t a b = (do pure (.bool (!(← Op.equal t a b))))) := by
            intro r
            refine ⟨?_, ?_⟩ <;> rintro rfl <;> (cases d <;> cases a <;> simp [nilKind] at ha <;> cases b <;> simp [nilKind] at hb <;> rfl)
          rcases hbo with rfl | rfl
          · simp only at hi; cases hi
            simp [(hbin .eql).1 rfl, he]
          · simp only at hi; cases hi
            simp [(hbin .neq).2 rfl, he]

end
end Go.Ideal
