/-
  Part of the proof: the machine that runs a program by fixed orders, and that each of its runs is a run of the model; or a run of it in parts. No conditions.
-/
import Derived.Test.YtbojbpalkegahaaGreatDoorIdMaps
namespace Go.Ideal
section
variable {P : Program} {base : Env} {W0 : World} {μ : Inj} {H : IHeap} {W : World}

def isSelect : Op → Bool
  | .select .. => true
  | _ => false
noncomputable def iflat (P : Program) (ρ : Operand → Value) (o : Oper) (H : IHeap) : Option (Value × IHeap) :=
  bif o.op.operands.toList.all (fun x => flat (ρ x)) && !(isSelect o.op) then
    match pureRun P (execOp ρ o) with
    | some (.value v) => bif flat v then some (v, H) else none
    | _ => none
  else none

def notChan : Value → Bool
  | .chan _ => false
  | _ => true
noncomputable def ibuiltin (P : Program) (ρ : Operand → Value) (o : Oper) (c : Call) (b : Builtin) (H : IHeap) : Option (Value × IHeap) :=
  match b with
  | .append => iappend P c.argTypes (c.args.toList.map ρ) H
  | .copy => icopy P c.argTypes (c.args.toList.map ρ) H
  | .clear => iclear P c.argTypes (c.args.toList.map ρ) H
  | .len => match c.argTypes.toList, c.args.toList with
    | t :: _, [x] => match ilen P t (ρ x) with
      | some v => some (v, H)
      | none => none
    | _, _ => none
  | _ => iflat P ρ o H

noncomputable def iop0 (P : Program) (ρ : Operand → Value) (o : Oper) (H : IHeap) : Option (Value × IHeap) :=
  match o.op with
  | .move x => some (ρ x, H)
  | .assign x => some (ρ x, H)
  | .pick c a b => match ρ c with
    | .bool t => some (bif t then ρ a else ρ b, H)
    | _ => none
  | .extract t i => match ρ t with
    | .tuple vs => match vs.toList[i]? with
      | some v => some (v, H)
      | none => none
    | _ => none
  | .nilCheck x => match ρ x with
    | .pointer (some a) => some (.pointer (some a), H)
    | .func (.func f) a b => some (.func (.func f) a b, H)
    | .func (.yield f) a b => some (.func (.yield f) a b, H)
    | _ => none
  | .makeFunc fn first captured => match fn with
    | .yield _ => none
    | fn => some (.func fn ⟨first.toList.map ρ⟩ ⟨captured.toList.map ρ⟩, H)
  | .makeInterface t x => match P.underlying t with
    | some (.interface _) => none
    | some _ => some (.iface t (ρ x), H)
    | none => none
  | .load t a => match iload P t (ρ a) H with
    | some v => some (v, H)
    | none => none
  | .store t a x => match istore P t (ρ a) (ρ x) H with
    | some H' => some (Go.undef, H')
    | none => none
  | .alloc t => match zeroL P t with
    | some z => some (.pointer (some ⟨H.next, 0, none⟩), H.alloc (.cells z 0 false))
    | none => none
  | .box _ x => bif notChan (ρ x) then some (.pointer (some ⟨H.next, 0, none⟩), H.alloc (.cells (ρ x).cells.toList 0 false)) else none
  | .build t parts => bif parts.toList.all (fun p => notChan (ρ p.2)) then
      match ibuild P t (parts.toList.map fun p => (p.1, ρ p.2)) with
      | some v => some (v, H)
      | none => none
    else none
  | .buildSlice t len parts => bif Nat.blt len capU && parts.toList.all (fun p => notChan (ρ p.2)) then ibuildSlice P t len (parts.toList.map fun p => (p.1, ρ p.2)) H else none
  | .makeSlice t l c => imakeSlice P t (ρ l) (ρ c) H
  | .slice t x lo hi mx => match islice P t (ρ x) (lo.map ρ) (hi.map ρ) (mx.map ρ) H with
    | some v => some (v, H)
    | none => none
  | .fieldAddr s x k => match ifieldAddr P s (ρ x) k with
    | some v => some (v, H)
    | none => none
  | .field t x k => match ifield P t (ρ x) k with
    | some v => some (v, H)
    | none => none
  | .indexAddr t x i => match iindexAddr P t (ρ x) (ρ i) with
    | some v => some (v, H)
    | none => none
  | .index t x i => match iindex P t (ρ x) (ρ i) with
    | some v => some (v, H)
    | none => none
  | .range t x => irange P t (ρ x) H
  | .next it s => inext (ρ it) s H
  | .binOp op t x y _ => match iflat P ρ o H with
    | some r => some r
    | none => match eqNil P op t (ρ x) (ρ y) with
      | some v => some (v, H)
      | none => none
  | .convert s d x => match iflat P ρ o H with
    | some r => some r
    | none => iconvert P s d (ρ x) H
  | .unOp _ _ _ => iflat P ρ o H
  | .makeMap _ r => imakeMap (r.map ρ) H
  | .mapUpdate t m k x => match imapUpdate P t (ρ m) (ρ k) (ρ x) H with
    | some H' => some (Go.undef, H')
    | none => none
  | .insert t m k x => match imapUpdate P t (ρ m) (ρ k) (ρ x) H with
    | some H' => some (Go.undef, H')
    | none => none
  | .lookup t x k ok => match ilookup P t (ρ x) (ρ k) ok H with
    | some v => some (v, H)
    | none => none
  | .typeAssert x _ at' ok => match itypeAssert P (ρ x) at' ok with
    | some v => some (v, H)
    | none => none
  | .call c => match c.callee with
    | .builtin b => ibuiltin P ρ o c b H
    | _ => none
  | _ => none

def Fin (nx : Next) (v : Value) : Prop := nx = .value v ∨ (nx = .skip ∧ v = Go.undef)

def OpSim (P : Program) (base : Env) (W0 : World) (μ : Inj) (H : IHeap) (W : World) (s : Sem Next) (v : Value) (H' : IHeap) : Prop :=
  ∃ μ' nx v' W', s.run P W = .ok nx W' ∧ Fin nx v' ∧ HRel base W0 μ' H' W' ∧ VRel μ' v v' ∧ Evolve μ H μ' H'

theorem OpSim.value (h : HRel base W0 μ H W) {s : Sem Value} {v : Value} (hs : ∃ v', s.run P W = .ok v' W ∧ VRel μ v v') : OpSim P base W0 μ H W (do pure (.value (← s))) v H := by
  obtain ⟨v', h1, h2⟩ := hs
  exact ⟨μ, .value v', v', W, by simp [h1], .inl rfl, h, h2, Evolve.refl _ _⟩
theorem OpSim.valueW {s : Sem Value} {v : Value} {H' : IHeap} (hs : ∃ μ' v' W', s.run P W = .ok v' W' ∧ HRel base W0 μ' H' W' ∧ VRel μ' v v' ∧ Evolve μ H μ' H') : OpSim P base W0 μ H W (do pure (.value (← s))) v H' := by
  obtain ⟨μ', v', W', h1, h2, h3, h4⟩ := hs
  exact ⟨μ', .value v', v', W', by simp [h1], .inl rfl, h2, h3, h4⟩

theorem iflat_sim (h : HRel base W0 μ H W) {ρ ρ' : Operand → Value} (hρ : ∀ x, VRel μ (ρ x) (ρ' x)) {o : Oper} {v : Value} {H' : IHeap} (hi : iflat P ρ o H = some (v, H')) : OpSim P base W0 μ H W (execOp ρ' o) v H' := by
  unfold iflat at hi
  cases hc : (o.op.operands.toList.all (fun x => flat (ρ x)) && !(isSelect o.op))
  · simp only [hc, cond_false] at hi; cases hi
  · simp only [hc, cond_true] at hi
    simp only [Bool.and_eq_true, Bool.not_eq_true'] at hc
    split at hi
    · rename_i v0 hp
      cases hf : flat v0
      · simp [hf] at hi
      · simp only [hf, cond_true, Option.some.injEq, Prod.mk.injEq] at hi
        obtain ⟨rfl, rfl⟩ := hi
        have he : execOp ρ' o = execOp ρ o := by
          refine execOp_congr o (fun cs b e => ?_) fun x hx => ?_
          · rw [e] at hc; simp [isSelect] at hc
          · have := List.all_eq_true.1 hc.1 x (by simpa using hx)
            exact flat_eq this (hρ x)
        rw [he]
        exact ⟨μ, .value v0, v0, W, pureRun_run hp W, .inl rfl, h, flat_refl hf, Evolve.refl _ _⟩
    · cases hi

theorem notChan_ne {v : Value} (h : notChan v = true) : ∀ c, v ≠ .chan c := by rintro c rfl; cases h
theorem parts_rel {ρ ρ' : Operand → Value} (hρ : ∀ x, VRel μ (ρ x) (ρ' x)) : ∀ (l : List (Nat × Operand)), l.all (fun p => notChan (ρ p.2)) = true → PRel μ (l.map fun p => (p.1, ρ p.2)) (l.map fun p => (p.1, ρ' p.2))
  | [], _ => .nil
  | (i, x) :: l, h => by
    simp only [List.all_cons, Bool.and_eq_true] at h
    exact .cons (hρ x) (notChan_ne h.1) (parts_rel hρ l h.2)
theorem opt_rel {ρ ρ' : Operand → Value} (hρ : ∀ x, VRel μ (ρ x) (ρ' x)) (x : Option Operand) : OVRel μ (x.map ρ) (x.map ρ') := by
  cases x with
  | none => exact .none
  | some x => exact .some (hρ x)

theorem ibuiltin_sim (h : HRel base W0 μ H W) {ρ ρ' : Operand → Value} (hρ : ∀ x, VRel μ (ρ x) (ρ' x)) {o : Oper} {c : Call} {b : Builtin} (ho : o.op = .call c) (hcal : c.callee = .builtin b) {v : Value} {H' : IHeap} (hi : ibuiltin P ρ o c b H = some (v, H')) :
    OpSim P base W0 μ H W (execOp ρ' o) v H' := by
  have hargs : LRel μ (c.args.toList.map ρ) (c.args.map ρ').toList := by
    rw [Array.toList_map]; exact LRel.map _ _ _ fun x _ => hρ x
  obtain ⟨cst, hex⟩ : ∃ cst, execOp ρ' o = builtin b c.argTypes o.type cst (c.args.map ρ') := by
    simp only [execOp, ho, resolve, hcal]
    exact ⟨_, rfl⟩
  unfold ibuiltin at hi
  split at hi
  · rw [hex]
    exact OpSim.valueW (append_sim h hargs hi)
  · rw [hex]
    obtain ⟨v', W', h1, h2, h3, h4⟩ := copy_sim (P := P) (ty := o.type) h hargs hi
    exact OpSim.valueW ⟨μ, v', W', h1, h2, h3, h4⟩
  · rw [hex]
    obtain ⟨v', W', h1, h2, h3, h4⟩ := clear_sim (P := P) (ty := o.type) h hargs hi
    exact OpSim.valueW ⟨μ, v', W', h1, h2, h3, h4⟩
  · rw [hex]
    split at hi
    · rename_i t _ x ht hx
      split at hi
      · rename_i v0 hl
        cases hi
        have ht0 : c.argTypes[0]? = some t := by rw [← Array.getElem?_toList, ht]; rfl
        have ha : c.args.map ρ' = #[ρ' x] := by rw [← Array.toList_inj, Array.toList_map, hx]; rfl
        obtain ⟨r1, n, r2⟩ := len_sim (P := P) (W := W) (ty := o.type) (hρ x) ht0 hl
        rw [ha]
        subst r2
        exact OpSim.value h ⟨_, r1, .int _ _⟩
      · cases hi
    · cases hi
  · exact iflat_sim h hρ hi

theorem iop0_sim (h : HRel base W0 μ H W) {ρ ρ' : Operand → Value} (hρ : ∀ x, VRel μ (ρ x) (ρ' x)) {o : Oper} {v : Value} {H' : IHeap} (hi : iop0 P ρ o H = some (v, H')) : OpSim P base W0 μ H W (execOp ρ' o) v H' := by
  unfold iop0 at hi
  split at hi
  · rename_i x ho
    cases hi
    exact ⟨μ, .value (ρ' x), ρ' x, W, by simp [execOp, ho], .inl rfl, h, hρ x, Evolve.refl _ _⟩
  · rename_i x ho
    cases hi
    exact ⟨μ, .value (ρ' x), ρ' x, W, by simp [execOp, ho], .inl rfl, h, hρ x, Evolve.refl _ _⟩
  · rename_i c a b ho
    split at hi
    · rename_i t hc
      cases hi
      have hc' : ρ' c = .bool t := by
        have hq := hρ c
        rw [hc] at hq
        generalize ρ' c = q at hq ⊢
        cases hq; rfl
      refine ⟨μ, .value (if t then ρ' a else ρ' b), _, W, by simp [execOp, ho, hc', asBool], .inl rfl, h, ?_, Evolve.refl _ _⟩
      cases t
      · exact hρ b
      · exact hρ a
    · cases hi
  · rename_i t i ho
    split at hi
    · rename_i vs hvs
      split at hi
      · rename_i v0 hv0
        cases hi
        have hr := hρ t
        rw [hvs] at hr
        obtain ⟨vs', he, hl⟩ := VRel.tuple_iff.1 hr
        obtain ⟨v', h1, h2⟩ := hl.get? hv0
        rw [Array.getElem?_toList] at h1
        exact ⟨μ, .value v', v', W, by simp [execOp, ho, he, Instr.extract, h1], .inl rfl, h, h2, Evolve.refl _ _⟩
      · cases hi
    · cases hi
  · rename_i x ho
    have hr := hρ x
    split at hi
    · rename_i a ha
      cases hi
      rw [ha] at hr
      generalize hq : ρ' x = q at hr
      cases hr with
      | ptr b o T hm => exact ⟨μ, _, _, W, by simp only [execOp, ho, hq]; rfl, .inl rfl, h, .ptr b o T hm, Evolve.refl _ _⟩
      | vptr b o i T hm => exact ⟨μ, _, _, W, by simp only [execOp, ho, hq]; rfl, .inl rfl, h, .vptr b o i T hm, Evolve.refl _ _⟩
    · rename_i f a b ha
      cases hi
      rw [ha] at hr
      obtain ⟨fn', xs', ys', he, hf, hx1, hy1⟩ := VRel.func_iff.1 hr
      cases hf
      exact ⟨μ, _, _, W, by simp only [execOp, ho, he]; rfl, .inl rfl, h, VRel.func_iff.2 ⟨_, _, _, rfl, .func f, hx1, hy1⟩, Evolve.refl _ _⟩
    · rename_i f a b ha
      cases hi
      rw [ha] at hr
      obtain ⟨fn', xs', ys', he, hf, hx1, hy1⟩ := VRel.func_iff.1 hr
      cases hf with
      | yield _ T hm => exact ⟨μ, _, _, W, by simp only [execOp, ho, he]; rfl, .inl rfl, h, VRel.func_iff.2 ⟨_, _, _, rfl, .yield f T hm, hx1, hy1⟩, Evolve.refl _ _⟩
    · cases hi
  · rename_i fn first captured ho
    have hl1 : LRel μ (first.toList.map ρ) (first.map ρ').toList := by rw [Array.toList_map]; exact LRel.map _ _ _ fun x _ => hρ x
    have hl2 : LRel μ (captured.toList.map ρ) (captured.map ρ').toList := by rw [Array.toList_map]; exact LRel.map _ _ _ fun x _ => hρ x
    split at hi
    · cases hi
    · rename_i hny
      cases hi
      have hfn : FnRel μ fn fn := by
        cases fn with
        | func f => exact .func f
        | method n => exact .method n
        | methodOf t n => exact .methodOf t n
        | via t p f b => exact .via t p f b
        | yield l => exact absurd rfl (hny l)
      exact ⟨μ, .value (.func fn (first.map ρ') (captured.map ρ')), _, W, by simp [execOp, ho, Instr.makeFunc], .inl rfl, h, VRel.func_iff.2 ⟨_, _, _, rfl, hfn, hl1, hl2⟩, Evolve.refl _ _⟩
  · rename_i t x ho
    split at hi
    · cases hi
    · rename_i d hni hu
      cases hi
      refine ⟨μ, .value (.iface t (ρ' x)), _, W, ?_, .inl rfl, h, .iface _ _ _ (hρ x), Evolve.refl _ _⟩
      have hne : ∀ ms, d ≠ .interface ms := fun ms e => hni ms e
      cases d <;> first | exact absurd rfl (hne _) | simp [execOp, ho, Instr.makeInterface, run_underlying hu]
    · cases hi
  · rename_i t a ho
    split at hi
    · rename_i v0 hl
      cases hi
      have he : execOp ρ' o = (do pure (.value (← Instr.loadAt t (ρ' a)))) := by simp only [execOp, ho]
      rw [he]
      exact OpSim.value h (load_sim h (hρ a) hl)
    · cases hi
  · rename_i t a x ho
    split at hi
    · rename_i H1 hs
      cases hi
      obtain ⟨W', h1, h2, h3⟩ := store_sim (P := P) h (hρ a) (hρ x) hs
      exact ⟨μ, .skip, Go.undef, W', by simp [execOp, ho, h1], .inr ⟨rfl, rfl⟩, h2, VRel.undef μ, h3⟩
    · cases hi
  · rename_i t ho
    split at hi
    · rename_i z hz
      cases hi
      obtain ⟨zz, r1, r2, r3⟩ := run_zeroValue' hz W
      have hl : LRel μ z zz.cells.toList := by rw [← r3]; exact flat_cells r2
      obtain ⟨g1, g2⟩ := h.alloc rfl (orel_cells W.heap.size 0 t hl)
      refine ⟨_, .value (.pointer (some ⟨W.heap.size, 0, none⟩)), _, _, ?_, .inl rfl, g1, ptr_new ⟨W.heap.size, 0, zz.cells.size, 0⟩ _ rfl, g2⟩
      simp [execOp, ho, Instr.alloc, r1, newVar, newRow]
    · cases hi
  · rename_i t x ho
    cases hn : notChan (ρ x)
    · simp [hn] at hi
    · simp only [hn, cond_true, Option.some.injEq, Prod.mk.injEq] at hi
      obtain ⟨rfl, rfl⟩ := hi
      have hl := cells_rel (hρ x) (notChan_ne hn)
      obtain ⟨g1, g2⟩ := h.alloc rfl (orel_cells W.heap.size 0 t hl)
      refine ⟨_, .value (.pointer (some ⟨W.heap.size, 0, none⟩)), _, _, ?_, .inl rfl, g1, ptr_new ⟨W.heap.size, 0, (ρ' x).cells.size, 0⟩ _ rfl, g2⟩
      simp [execOp, ho, Instr.box, newVar, newRow]
  · rename_i t parts ho
    cases hn : parts.toList.all (fun p => notChan (ρ p.2))
    · simp only [hn, cond_false] at hi; cases hi
    · simp only [hn, cond_true] at hi
      split at hi
      · rename_i v0 hb
        cases hi
        have he : execOp ρ' o = (do pure (.value (← Instr.build t (parts.map fun (i, x) => (i, ρ' x))))) := by simp only [execOp, ho]
        rw [he]
        exact OpSim.value h (build_sim (parts_rel hρ _ hn) hb _ (by rw [Array.toList_map]))
      · cases hi
  · rename_i t len parts ho
    cases hn : (Nat.blt len capU && parts.toList.all (fun p => notChan (ρ p.2)))
    · simp only [hn, cond_false] at hi; cases hi
    · simp only [hn, cond_true] at hi
      simp only [Bool.and_eq_true] at hn
      have he : execOp ρ' o = (do pure (.value (← Instr.buildSlice t len (parts.map fun (i, x) => (i, ρ' x))))) := by simp only [execOp, ho]
      rw [he]
      exact OpSim.valueW (buildSlice_sim h (parts_rel hρ _ hn.2) hi _ (by rw [Array.toList_map]) (Nat.le_of_ble_eq_true hn.1))
  · rename_i t l c ho
    have he : execOp ρ' o = (do pure (.value (← Instr.makeSlice t (ρ' l) (ρ' c)))) := by simp only [execOp, ho]
    rw [he]
    exact OpSim.valueW (makeSlice_sim h (hρ l) (hρ c) hi)
  · rename_i t x lo hi2 mx ho
    split at hi
    · rename_i v0 hs
      cases hi
      have he : execOp ρ' o = (do pure (.value (← Instr.sliceAt t (ρ' x) (lo.map ρ') (hi2.map ρ') (mx.map ρ')))) := by simp only [execOp, ho]
      rw [he]
      exact OpSim.value h (slice_sim h (hρ x) (opt_rel hρ lo) (opt_rel hρ hi2) (opt_rel hρ mx) hs)
    · cases hi
  · rename_i s x k ho
    split at hi
    · rename_i v0 hs
      cases hi
      have he : execOp ρ' o = (do pure (.value (← Instr.fieldAt s (ρ' x) k))) := by simp only [execOp, ho]
      rw [he]
      exact OpSim.value h (fieldAddr_sim (hρ x) hs)
    · cases hi
  · rename_i s x k ho
    split at hi
    · rename_i v0 hs
      cases hi
      have he : execOp ρ' o = (do pure (.value (← Instr.field s (ρ' x) k))) := by simp only [execOp, ho]
      rw [he]
      exact OpSim.value h (field_sim (hρ x) hs)
    · cases hi
  · rename_i s x k ho
    split at hi
    · rename_i v0 hs
      cases hi
      have he : execOp ρ' o = (do pure (.value (← Instr.indexAt s (ρ' x) (ρ' k)))) := by simp only [execOp, ho]
      rw [he]
      exact OpSim.value h (indexAddr_sim (hρ x) (hρ k) hs)
    · cases hi
  · rename_i s x k ho
    split at hi
    · rename_i v0 hs
      cases hi
      have he : execOp ρ' o = (do pure (.value (← Instr.index s (ρ' x) (ρ' k)))) := by simp only [execOp, ho]
      rw [he]
      exact OpSim.value h (index_sim (hρ x) (hρ k) hs)
    · cases hi
  · rename_i t x ho
    have he : execOp ρ' o = (do pure (.value (← Instr.range t (ρ' x)))) := by simp only [execOp, ho]
    rw [he]
    exact OpSim.valueW (range_sim h (hρ x) hi)
  · rename_i it s ho
    have he : execOp ρ' o = (do pure (.value (← Instr.next (ρ' it) s o.type))) := by simp only [execOp, ho]
    rw [he]
    obtain ⟨v', W', h1, h2, h3, h4⟩ := next_sim (P := P) (ty := o.type) h (hρ it) hi
    exact OpSim.valueW ⟨μ, v', W', h1, h2, h3, h4⟩
  · rename_i op t x y yt ho
    split at hi
    · rename_i r hr
      cases hi
      exact iflat_sim h hρ hr
    · split at hi
      · rename_i v0 he
        cases hi
        have he' : eqNil P op t (ρ' x) (ρ' y) = some v := by
          unfold eqNil at he ⊢
          cases ha : nilKind (ρ x) (P.underlying t) with
          | none => simp [ha] at he
          | some p =>
            cases hb : nilKind (ρ y) (P.underlying t) with
            | none => simp [ha, hb] at he
            | some q =>
              rw [nilKind_rel (hρ x) ha, nilKind_rel (hρ y) hb]
              rw [ha, hb] at he
              exact he
        have hfl : ∃ b, v = .bool b := by
          unfold eqNil at he
          split at he
          · rename_i p q _ _
            cases hpq : (p || q)
            · simp [hpq] at he
            · simp only [hpq, cond_true] at he
              split at he <;> first | (cases he; exact ⟨_, rfl⟩) | cases he
          · cases he
        obtain ⟨b, rfl⟩ := hfl
        have hex : execOp ρ' o = (do pure (.value (← (do eqGuard op t x y (ρ' x) (ρ' y); binOp op t (ρ' x) (ρ' y))))) := by simp only [execOp, ho]
        rw [hex]
        exact OpSim.value h ⟨_, eqNil_run he' W, .bool _⟩
      · cases hi
  · rename_i s d x ho
    split at hi
    · rename_i r hr
      cases hi
      exact iflat_sim h hρ hr
    · have he : execOp ρ' o = (do pure (.value (← convert s d (ρ' x)))) := by simp only [execOp, ho]
      rw [he]
      exact OpSim.valueW (convert_sim h (hρ x) hi)
  · exact iflat_sim h hρ hi
  · rename_i t r ho
    cases r with
    | some r => cases hi
    | none =>
      simp only [Option.map_none, imakeMap] at hi
      cases hi
      obtain ⟨g1, g2⟩ := h.alloc (T := ⟨W.heap.size, 0, 0, 0⟩) (o := .map [] 0) (o' := .map #[] 0) rfl (.map _ [] #[] 0 .nil)
      exact ⟨_, .value (.map (some W.heap.size)), _, _, by simp [execOp, ho, Instr.makeMap, newObj]; rfl, .inl rfl, g1, .map _ ⟨W.heap.size, 0, 0, 0⟩ (Inj.ext_same _ _ _), g2⟩
  · rename_i t m k x ho
    split at hi
    · rename_i H1 hs
      cases hi
      obtain ⟨W', h1, h2, h3⟩ := mapUpdate_sim (P := P) h (hρ m) (hρ k) (hρ x) hs
      exact ⟨μ, .skip, Go.undef, W', by simp [execOp, ho, h1], .inr ⟨rfl, rfl⟩, h2, VRel.undef μ, h3⟩
    · cases hi
  · rename_i t m k x ho
    split at hi
    · rename_i H1 hs
      cases hi
      obtain ⟨W', h1, h2, h3⟩ := mapUpdate_sim (P := P) h (hρ m) (hρ k) (hρ x) hs
      exact ⟨μ, .skip, Go.undef, W', by simp [execOp, ho, h1], .inr ⟨rfl, rfl⟩, h2, VRel.undef μ, h3⟩
    · cases hi
  · rename_i t x k ok ho
    split at hi
    · rename_i v0 hs
      cases hi
      have he : execOp ρ' o = (do pure (.value (← Instr.lookup t (ρ' x) (ρ' k) ok))) := by simp only [execOp, ho]
      rw [he]
      exact OpSim.value h (lookup_sim h (hρ x) (hρ k) hs)
    · cases hi
  · rename_i x xt at' ok ho
    split at hi
    · rename_i v0 hs
      cases hi
      have he : execOp ρ' o = (do pure (.value (← Instr.typeAssert (ρ' x) xt at' ok))) := by simp only [execOp, ho]
      rw [he]
      exact OpSim.value h (typeAssert_sim (hρ x) hs)
    · cases hi
  · rename_i c ho
    split at hi
    · rename_i b hb
      exact ibuiltin_sim h hρ ho hb hi
    · cases hi
  · cases hi

end
end Go.Ideal
