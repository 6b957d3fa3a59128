/-
  Part of the proof: the machine that runs a program by fixed orders, and that each of its runs is a run of the model; or a run of it in parts. No conditions.
-/
import Derived.Test.YtjaogllgillaiaaGreatDoorIdHeap
import Derived.Laws.Tables
namespace Go.Ideal

/-! What needs no memory. -/
noncomputable def pureRun {α : Type} (P : Program) (s : Sem α) : Option α :=
  Sem.rec (motive := fun _ => Option α) (fun a => some a) (fun _ _ _ _ => none) (fun _ _ _ _ _ => none) (fun _ _ _ => none) (fun _ _ _ => none) (fun _ _ _ _ => none) (fun _ _ _ => none)
    (fun _ _ _ => none) (fun _ _ _ _ => none) (fun _ _ _ => none) (fun _ _ _ => none) (fun _ ih => ih P) (fun _ _ ih => ih) (fun _ => none) s

theorem pureRun_run {α : Type} {P : Program} {s : Sem α} {a : α} (h : pureRun P s = some a) (w : World) : s.run P w = .ok a w := by
  induction s with
  | pure b => simp [pureRun] at h; subst h; rfl
  | program k ih => exact ih P h
  | mark m k ih => exact ih h
  | _ => simp [pureRun] at h

def flatN : Nat → Value → Bool
  | 0, _ => false
  | n + 1, v => match v with
    | .bool _ | .int _ _ | .float _ _ | .string _ | .pointer none | .slice none _ _ | .map none | .nilFunc | .nilIface => true
    | .iface _ v => flatN n v
    | .agg cs | .tuple cs => cs.toList.all (flatN n)
    | _ => false

theorem flatN_eq {μ : Inj} : ∀ (n : Nat) (v v' : Value), flatN n v = true → VRel μ v v' → v' = v := by
  intro n
  induction n with
  | zero => intro v v' h; cases h
  | succ n ih =>
    have hl : ∀ (l l' : List Value), l.all (flatN n) = true → LRel μ l l' → l' = l := by
      intro l
      induction l with
      | nil => intro l' _ h; cases h; rfl
      | cons a l ihl =>
        intro l' h hr
        cases hr with
        | cons hv ht =>
          simp only [List.all_cons, Bool.and_eq_true] at h
          rw [ih _ _ h.1 hv, ihl _ h.2 ht]
    intro v v' h hr
    cases hr with
    | junk => simp [flatN, junk] at h
    | iface t a a' hv => simp only [flatN] at h; rw [ih _ _ h hv]
    | agg xs xs' hx ex =>
      obtain ⟨ys, he, hl'⟩ := VRel.agg_iff.1 (.agg xs xs' hx ex)
      cases he
      simp only [flatN] at h
      have := hl _ _ h hl'
      rw [Array.toList_inj.1 this]
    | tuple xs xs' hx ex =>
      obtain ⟨ys, he, hl'⟩ := VRel.tuple_iff.1 (.tuple xs xs' hx ex)
      cases he
      simp only [flatN] at h
      have := hl _ _ h hl'
      rw [Array.toList_inj.1 this]
    | bool | int | float | string | nilptr | nilslice | nilmap | nilFunc | nilIface => rfl
    | ptr | slice | vptr | vslice | map | func => simp [flatN] at h

theorem flatN_refl (μ : Inj) : ∀ (n : Nat) (v : Value), flatN n v = true → VRel μ v v := by
  intro n
  induction n with
  | zero => intro v h; cases h
  | succ n ih =>
    have hl : ∀ (l : List Value), l.all (flatN n) = true → LRel μ l l := by
      intro l
      induction l with
      | nil => intro _; exact .nil
      | cons a l ihl =>
        intro h
        simp only [List.all_cons, Bool.and_eq_true] at h
        exact .cons (ih _ h.1) (ihl h.2)
    intro v h
    unfold flatN at h
    split at h
    · exact .bool _
    · exact .int _ _
    · exact .float _ _
    · exact .string _
    · exact .nilptr
    · exact .nilslice _ _
    · exact .nilmap
    · exact .nilFunc
    · exact .nilIface
    · exact .iface _ _ _ (ih _ h)
    · exact VRel.agg_iff.2 ⟨_, rfl, hl _ h⟩
    · exact VRel.tuple_iff.2 ⟨_, rfl, hl _ h⟩
    · cases h

def flat (v : Value) : Bool := flatN 8 v
theorem flat_eq {μ : Inj} {v v' : Value} (h : flat v = true) (hr : VRel μ v v') : v' = v := flatN_eq 8 v v' h hr
theorem flat_refl {μ : Inj} {v : Value} (h : flat v = true) : VRel μ v v := flatN_refl μ 8 v h

/-! Bounds. -/
def bnd (x : Value) (y : Nat) : Option Nat :=
  match x with
  | .int _ (.ofNat k) => bif Nat.ble k y then some k else none
  | _ => none
def ibounds (len cap : Nat) (low high max : Option Value) : Option (Nat × Nat × Nat) :=
  (match max with | some v => bnd v cap | none => some cap).bind fun m =>
  (match high, max with | some v, _ => bnd v m | none, none => some len | none, some _ => none).bind fun h =>
  (match low with | some v => bnd v h | none => some 0).bind fun l => some (l, h, m)

/-! Structures built. -/
def ifill (place : Nat → Option (Nat × Nat)) (cells : List Value) : List (Nat × Value) → Option (List Value)
  | [] => some cells
  | (i, v) :: rest =>
    match place i with
    | none => none
    | some (off, size) =>
      let l := v.cells.toList
      bif Nat.beq l.length size && Nat.ble (off + l.length) cells.length then ifill place (splice cells off l) rest else none

def zeroL (P : Program) (t : TypeId) : Option (List Value) :=
  match P.info? t with
  | some i => match i.zero with
    | some z => bif flat z then some z.cells.toList else none
    | none => none
  | none => none
def sizeT (P : Program) (t : TypeId) : Option Nat := (P.info? t).map (·.size)
def structPlaces (P : Program) (fields : Array Field) : Option (List (Nat × Nat)) :=
  fields.toList.mapM (fun f => (P.info? f.type).map fun i => (f.offset, i.size))

def ibuild (P : Program) (t : TypeId) (parts : List (Nat × Value)) : Option Value :=
  match zeroL P t, P.underlying t with
  | some z, some (.array _ e) => match sizeT P e with
    | some n => (ifill (fun i => some (i * n, n)) z parts).map fun l => .agg ⟨l⟩
    | none => none
  | some z, some (.struct fields) => match structPlaces P fields with
    | some pl => (ifill (fun i => pl[i]?) z parts).map fun l => .agg ⟨l⟩
    | none => none
  | _, _ => none

def zerosL (z : List Value) (n : Nat) : List Value := (List.range n).map fun i => z.getD (i % z.length) default

noncomputable def ibuildSlice (P : Program) (t : TypeId) (len : Nat) (parts : List (Nat × Value)) (H : IHeap) : Option (Value × IHeap) :=
  match P.underlying t with
  | some (.slice e) => match sizeT P e, zeroL P e with
    | some n, some z =>
      bif Nat.beq (len * n) 0 then
        match parts with
        | [] => some (.slice (some ⟨H.next, 0, none⟩) len len, H.alloc (.cells [] n false))
        | _ => none
      else bif Nat.ble (len * n) 16777216 then
        (ifill (fun i => some (i * n, n)) (zerosL z (len * n)) parts).map fun l => (.slice (some ⟨H.next, 0, none⟩) len len, H.alloc (.cells l n false))
      else none
    | _, _ => none
  | _ => none

/-! Memory. -/
def isAggD : TypeDesc → Bool
  | .struct _ | .array _ _ => true
  | _ => false
noncomputable def iload (P : Program) (t : TypeId) (a : Value) (H : IHeap) : Option Value :=
  match a with
  | .pointer (some ⟨b, off, none⟩) =>
    match H.get b with
    | some (.cells cs _ _) =>
      match P.underlying t, sizeT P t with
      | some d, some n =>
        bif isAggD d then
          let l := (cs.drop off).take n
          bif Nat.beq l.length n then some (.agg ⟨l⟩) else none
        else cs[off]?
      | _, _ => none
    | _ => none
  | _ => none
noncomputable def istore (P : Program) (t : TypeId) (a x : Value) (H : IHeap) : Option IHeap :=
  match a with
  | .pointer (some ⟨b, off, none⟩) =>
    match H.get b with
    | some (.cells cs e false) =>
      match sizeT P t with
      | some n =>
        let l := x.cells.toList
        bif Nat.beq l.length n && l.all okCell && Nat.ble (off + l.length) cs.length then some (H.put b (.cells (splice cs off l) e false)) else none
      | _ => none
    | _ => none
  | _ => none

def addTo (b off n : Nat) : Value := .pointer (some ⟨b, off + n, none⟩)

end Go.Ideal

namespace Go.Ideal
section
variable {P : Program} {base : Env} {W0 : World} {μ : Inj} {H : IHeap} {W : World}

theorem sizeT_eq {t : TypeId} {n : Nat} (h : sizeT P t = some n) : ∃ i, P.info? t = some i ∧ i.size = n := by
  unfold sizeT at h
  cases hi : P.info? t with
  | none => simp [hi] at h
  | some i => simp [hi] at h; exact ⟨i, rfl, h⟩
theorem run_sizeOf' {t : TypeId} {n : Nat} (h : sizeT P t = some n) (w : World) : (sizeOf t).run P w = .ok n w := by
  obtain ⟨i, hi, rfl⟩ := sizeT_eq h
  simp [sizeOf, typeInfo, hi]
theorem zeroL_eq {t : TypeId} {l : List Value} (h : zeroL P t = some l) : ∃ i z, P.info? t = some i ∧ i.zero = some z ∧ flat z = true ∧ z.cells.toList = l := by
  unfold zeroL at h
  cases hi : P.info? t with
  | none => simp [hi] at h
  | some i =>
    cases hz : i.zero with
    | none => simp [hi, hz] at h
    | some z =>
      simp only [hi, hz] at h
      cases hf : flat z <;> simp [hf] at h
      exact ⟨i, z, rfl, hz, hf, h⟩
theorem run_zeroValue' {t : TypeId} {l : List Value} (h : zeroL P t = some l) (w : World) : ∃ z, (zeroValue t).run P w = .ok z w ∧ flat z = true ∧ z.cells.toList = l := by
  obtain ⟨i, z, hi, hz, hf, hl⟩ := zeroL_eq h
  exact ⟨z, by simp [zeroValue, typeInfo, hi, hz], hf, hl⟩
theorem cells_rel {v v' : Value} (h : VRel μ v v') (hok : ∀ c, v ≠ .chan c) : LRel μ v.cells.toList v'.cells.toList := by
  cases h with
  | junk v => exact absurd rfl (hok _)
  | agg xs xs' hx ex =>
    obtain ⟨ys, he, hl⟩ := VRel.agg_iff.1 (.agg xs xs' hx ex)
    cases he; exact hl
  | bool | int | float | string | nilptr | nilslice | nilmap | nilFunc | nilIface => first | exact .cons (.bool _) .nil | exact .cons (.int _ _) .nil | exact .cons (.float _ _) .nil | exact .cons (.string _) .nil | exact .cons .nilptr .nil | exact .cons (.nilslice _ _) .nil | exact .cons .nilmap .nil | exact .cons .nilFunc .nil | exact .cons .nilIface .nil
  | ptr b o T h => exact .cons (.ptr b o T h) .nil
  | slice b o l k k' o' T h hc ho => exact .cons (.slice b o l k k' o' T h hc ho) .nil
  | vptr b o i T h => exact .cons (.vptr b o i T h) .nil
  | vslice b i l k k' o' T h hc ho => exact .cons (.vslice b i l k k' o' T h hc ho) .nil
  | map b T h => exact .cons (.map b T h) .nil
  | func fn fn' xs xs' ys ys' hf hx ex hy ey => exact .cons (.func fn fn' xs xs' ys ys' hf hx ex hy ey) .nil
  | iface t v v' h => exact .cons (.iface t v v' h) .nil
  | tuple xs xs' hx ex => exact .cons (.tuple xs xs' hx ex) .nil
theorem flat_cells {z : Value} (h : flat z = true) : LRel μ z.cells.toList z.cells.toList :=
  cells_rel (flat_refl h) (by rintro c rfl; simp [flat, flatN] at h)

theorem run_isAgg' {t : TypeId} {d : TypeDesc} (h : P.underlying t = some d) (w : World) : (isAgg t).run P w = .ok (isAggD d) w := by
  cases d <;> simp [isAgg, run_underlying h, isAggD]

theorem load_sim (h : HRel base W0 μ H W) {t : TypeId} {a a' v : Value} (ha : VRel μ a a') (hi : iload P t a H = some v) :
    ∃ v', (Instr.loadAt t a').run P W = .ok v' W ∧ VRel μ v v' := by
  unfold iload at hi
  split at hi
  · rename_i b off
    cases ha with
    | ptr _ _ T hm =>
      split at hi
      · rename_i cs e ro hb
        split at hi
        · rename_i dd n hd hn
          simp only [Instr.loadAt, Instr.sureAddr, Sem.run_bind, Sem.run_pure, Result.andThen_ok, loadVar, run_isAgg' hd]
          cases hagg : isAggD dd
          · simp only [hagg, cond_false] at hi
            obtain ⟨v', h1, h2⟩ := h.cell hb hm hi
            exact ⟨v', by simp [h1], h2⟩
          · simp only [hagg, cond_true] at hi
            cases hl : Nat.beq ((cs.drop off).take n).length n
            · rw [hl] at hi; cases hi
            · simp only [hl, cond_true, Option.some.injEq] at hi
              subst hi
              have hlen := Nat.eq_of_beq_eq_true hl
              obtain ⟨l', r1, r2, _⟩ := h.row hb hm (off := off) (l := (cs.drop off).take n) (by rw [hlen]) P
              rw [hlen] at r2
              refine ⟨.agg l'.toArray, ?_, VRel.agg_iff.2 ⟨_, rfl, by simpa using r1⟩⟩
              simp [run_sizeOf' hn, r2]
        · cases hi
      · cases hi
  · cases hi

theorem store_sim (h : HRel base W0 μ H W) {t : TypeId} {a a' x x' : Value} {H' : IHeap} (ha : VRel μ a a') (hx : VRel μ x x') (hi : istore P t a x H = some H') :
    ∃ W', (Instr.storeAt t a' x').run P W = .ok () W' ∧ HRel base W0 μ H' W' ∧ Evolve μ H μ H' := by
  unfold istore at hi
  split at hi
  · rename_i b off
    cases ha with
    | ptr _ _ T hm =>
      split at hi
      · rename_i cs e hb
        split at hi
        · rename_i n hn
          cases hc : (Nat.beq x.cells.toList.length n && x.cells.toList.all okCell && Nat.ble (off + x.cells.toList.length) cs.length)
          · simp only [hc, cond_false] at hi; cases hi
          · simp only [hc, cond_true, Option.some.injEq] at hi
            subst hi
            simp only [Bool.and_eq_true] at hc
            obtain ⟨⟨h1, h2⟩, h3⟩ := hc
            have hlen := Nat.eq_of_beq_eq_true h1
            have hle := Nat.le_of_ble_eq_true h3
            have hr := cells_rel hx (by
              rintro k rfl
              simp [Value.cells, okCell] at h2)
            obtain ⟨W', r1, r2, r3⟩ := HRel.stores P hm _ _ H W cs off 0 h hb hr h2 (by simpa using hle)
            refine ⟨W', ?_, r2, r3⟩
            have hsz : x'.cells.size = n := by
              have := hr.length; rw [hlen] at this; simpa using this.symm
            simp only [Instr.storeAt, Instr.sureAddr, Sem.run_bind, Sem.run_pure, Result.andThen_ok, storeVar, run_sizeOf' hn]
            simp only [hsz, ne_eq, not_true_eq_false, if_false]
            exact r1
        · cases hi
      · cases hi
  · cases hi

/-! Building. -/
inductive PRel (μ : Inj) : List (Nat × Value) → List (Nat × Value) → Prop where
  | nil : PRel μ [] []
  | cons {i : Nat} {v v' : Value} {l l' : List (Nat × Value)} (h : VRel μ v v') (hc : ∀ c, v ≠ .chan c) (t : PRel μ l l') : PRel μ ((i, v) :: l) ((i, v') :: l')

theorem foldl_set (vs : List Value) : ∀ (off k : Nat) (cells : Array Value), off + k + vs.length ≤ cells.size →
    ((vs.zipIdx k).foldl (fun cs (x : Value × Nat) => cs.setIfInBounds (off + x.2) x.1) cells).toList = splice cells.toList (off + k) vs := by
  induction vs with
  | nil => intro off k cells _; simp [splice_nil]
  | cons v vs ih =>
    intro off k cells h
    simp only [List.length_cons] at h
    simp only [List.zipIdx_cons, List.foldl_cons]
    rw [ih off (k + 1) _ (by simp; omega), splice_cons _ _ _ _ (by simpa using h)]
    simp [Array.toList_setIfInBounds, Nat.add_assoc]

theorem fill_sim {place : Nat → Option (Nat × Nat)} : ∀ (parts parts' : List (Nat × Value)) (cells : List Value) (cells' : Array Value) (r : List Value), PRel μ parts parts' → LRel μ cells cells'.toList → ifill place cells parts = some r →
    ∃ r', Instr.fill place cells' parts' = some r' ∧ LRel μ r r'.toList := by
  intro parts
  induction parts with
  | nil =>
    intro parts' cells cells' r hp hc hi
    cases hp
    simp [ifill] at hi; subst hi
    exact ⟨cells', rfl, hc⟩
  | cons p parts ih =>
    intro parts' cells cells' r hp hc hi
    cases hp with
    | @cons i v v' _ l' hv hch ht =>
      simp only [ifill] at hi
      cases hpl : place i with
      | none => simp [hpl] at hi
      | some os =>
        obtain ⟨off, size⟩ := os
        simp only [hpl] at hi
        cases hcnd : (Nat.beq v.cells.toList.length size && Nat.ble (off + v.cells.toList.length) cells.length)
        · simp only [hcnd, cond_false] at hi; cases hi
        · simp only [hcnd, cond_true] at hi
          simp only [Bool.and_eq_true] at hcnd
          have h1 := Nat.eq_of_beq_eq_true hcnd.1
          have h2 := Nat.le_of_ble_eq_true hcnd.2
          have hr := cells_rel hv hch
          have hl1 : v'.cells.size = size := by have := hr.length; rw [h1] at this; simpa using this.symm
          have hl2 : off + v'.cells.size ≤ cells'.size := by have := hc.length; rw [h1] at h2; simp at this; omega
          have hsp : LRel μ (splice cells off v.cells.toList) ((v'.cells.toList.zipIdx 0).foldl (fun cs (x : Value × Nat) => cs.setIfInBounds (off + x.2) x.1) cells').toList := by
            rw [foldl_set _ _ _ _ (by simpa using hl2)]
            unfold splice
            rw [hr.length]
            exact (hc.take _).append (hr.append (hc.drop _))
          obtain ⟨r', e1, e2⟩ := ih l' _ _ r ht hsp hi
          refine ⟨r', ?_, e2⟩
          simp only [Instr.fill, hpl]
          have hno : ¬ (v'.cells.size ≠ size || off + v'.cells.size > cells'.size) = true := by
            simp [hl1]; omega
          simp only [hno]
          rw [← e1]
          congr 1
          rw [← Array.foldl_toList]
          simp [Array.toList_zipIdx]

theorem build_sim {t : TypeId} {parts parts' : List (Nat × Value)} {v : Value} (hp : PRel μ parts parts') (hi : ibuild P t parts = some v) (ps : Array (Nat × Value)) (hps : ps.toList = parts') :
    ∃ v', (Instr.build t ps).run P W = .ok v' W ∧ VRel μ v v' := by
  unfold ibuild at hi
  split at hi
  · rename_i z _ e hz hu
    obtain ⟨i, zz, h1, h2, h3, h4⟩ := zeroL_eq hz
    split at hi
    · rename_i n hn
      obtain ⟨ie, h5, rfl⟩ := sizeT_eq hn
      cases hf : ifill (fun i => some (i * ie.size, ie.size)) z parts with
      | none => simp [hf] at hi
      | some r =>
        simp only [hf, Option.map_some, Option.some.injEq] at hi
        subst hi
        obtain ⟨r', e1, e2⟩ := fill_sim parts parts' z zz.cells r hp (by rw [← h4]; exact flat_cells h3) hf
        refine ⟨.agg r', run_build W t ps r' ?_, VRel.agg_iff.2 ⟨_, rfl, e2⟩⟩
        rw [hps]
        simp [Program.built, h1, hu, h2, h5, e1]
    · cases hi
  · rename_i z fields hz hu
    obtain ⟨i, zz, h1, h2, h3, h4⟩ := zeroL_eq hz
    split at hi
    · rename_i pl hpl
      cases hf : ifill (fun i => pl[i]?) z parts with
      | none => simp [hf] at hi
      | some r =>
        simp only [hf, Option.map_some, Option.some.injEq] at hi
        subst hi
        obtain ⟨r', e1, e2⟩ := fill_sim parts parts' z zz.cells r hp (by rw [← h4]; exact flat_cells h3) hf
        refine ⟨.agg r', run_build W t ps r' ?_, VRel.agg_iff.2 ⟨_, rfl, e2⟩⟩
        rw [hps]
        unfold structPlaces at hpl
        simp [Program.built, h1, hu, h2, hpl, e1]
    · cases hi
  · cases hi

theorem zeros_sim {z : Value} {l : List Value} (hf : flat z = true) (hl : z.cells.toList = l) (n : Nat) :
    LRel μ (zerosL l n) (((Array.range n).map (z.cells[· % z.cells.size]!)).toList) := by
  subst hl
  have hz : LRel μ z.cells.toList z.cells.toList := flat_cells hf
  have hd : VRel μ (default : Value) default := .bool _
  simp only [zerosL, Array.toList_map, Array.toList_range]
  refine LRel.map _ _ _ fun i _ => ?_
  have : z.cells[i % z.cells.size]! = z.cells.toList.getD (i % z.cells.toList.length) default := by
    rw [getElem!_def, List.getD, Array.getElem?_toList]
    simp only [Array.length_toList]
    cases z.cells[i % z.cells.size]? <;> rfl
  rw [this]
  rcases Nat.lt_or_ge (i % z.cells.toList.length) z.cells.toList.length with hlt | hge
  · simp only [List.getD, List.getElem?_eq_getElem hlt, Option.getD_some]; exact hz.idx _ hlt hlt
  · simp only [List.getD, List.getElem?_eq_none hge, Option.getD_none]; exact hd

theorem orel_cells {l : List Value} {c : Array Value} (k e : Nat) (t : TypeId) (h : LRel μ l c.toList) : ORel μ ⟨k, 0, c.size, e⟩ (.cells l e false) (.cells c t) := by
  refine .cells ⟨k, 0, c.size, e⟩ l e false c t 0 0 rfl ?_ (by simp) (fun _ i _ => by omega)
  have := h.length
  rw [List.drop_zero, List.take_of_length_le (by omega)]
  exact h

theorem ptr_new (T : Tgt) (b : Nat) (hd : T.d = 0) : VRel (μ.ext b T) (.pointer (some ⟨b, 0, none⟩)) (.pointer (some ⟨T.c, 0, none⟩)) := by
  have := VRel.ptr (μ := μ.ext b T) b 0 T (Inj.ext_same _ _ _)
  rw [hd] at this
  exact this
theorem slice_new (T : Tgt) (b : Nat) (hd : T.d = 0) (n c c' : Nat) (hc : CapRel T 0 n c c') : VRel (μ.ext b T) (.slice (some ⟨b, 0, none⟩) n c) (.slice (some ⟨T.c, 0, none⟩) n c') :=
  .slice b 0 n c c' 0 T (Inj.ext_same _ _ _) hc (.inl (by omega))

theorem buildSlice_sim (h : HRel base W0 μ H W) {t : TypeId} {len : Nat} {parts parts' : List (Nat × Value)} {v : Value} {H' : IHeap} (hp : PRel μ parts parts') (hi : ibuildSlice P t len parts H = some (v, H')) (ps : Array (Nat × Value)) (hps : ps.toList = parts') (hcap : len < capU) :
    ∃ μ' v' W', (Instr.buildSlice t len ps).run P W = .ok v' W' ∧ HRel base W0 μ' H' W' ∧ VRel μ' v v' ∧ Evolve μ H μ' H' := by
  unfold ibuildSlice at hi
  split at hi
  · rename_i e hu
    split at hi
    · rename_i n z hn hz
      obtain ⟨ie, h5, rfl⟩ := sizeT_eq hn
      obtain ⟨i, zz, h1, h2, h3, h4⟩ := zeroL_eq hz
      rw [h5] at h1; cases h1
      cases hz0 : Nat.beq (len * ie.size) 0
      case true =>
        simp only [hz0, cond_true] at hi
        split at hi
        · cases hi
          cases hp
          have hz0 := Nat.eq_of_beq_eq_true hz0
          have hrun : (Instr.buildSlice t len ps).run P W = .ok (.slice (some ⟨W.heap.size, 0, none⟩) len len) (W.alloc (.cells #[] e)) := by
            have hr0 : Array.range 0 = #[] := rfl
            simp [Instr.buildSlice, run_underlying hu, sizeOf, typeInfo, h5, hz0, newRow, hps, hr0, Instr.fill]
          obtain ⟨g1, g2⟩ := h.alloc rfl (orel_cells (l := []) (c := #[]) W.heap.size ie.size e .nil)
          exact ⟨_, _, _, hrun, g1, slice_new _ _ rfl len len len (.inl ⟨hcap, rfl⟩), g2⟩
        · cases hi
      simp only [hz0, cond_false] at hi
      cases hcnd : (Nat.ble (len * ie.size) 16777216)
      · simp only [hcnd, cond_false] at hi; cases hi
      · simp only [hcnd, cond_true] at hi
        have c1 := Nat.le_of_ble_eq_true hcnd
        have c2 : ¬ len * ie.size = 0 := by intro e; rw [e] at hz0; exact absurd hz0 (by decide)
        cases hf : ifill (fun i => some (i * ie.size, ie.size)) (zerosL z (len * ie.size)) parts with
        | none => simp [hf] at hi
        | some r =>
          simp only [hf, Option.map_some, Option.some.injEq, Prod.mk.injEq] at hi
          obtain ⟨rfl, rfl⟩ := hi
          obtain ⟨r', e1, e2⟩ := fill_sim parts parts' _ _ r hp (zeros_sim h3 h4 (len * ie.size)) hf
          have hrun : (Instr.buildSlice t len ps).run P W = .ok (.slice (some ⟨W.heap.size, 0, none⟩) len len) (W.alloc (.cells r' e)) := by
            rw [← hps] at e1
            have hsmall : ¬ len * ie.size > 2 ^ 24 := by omega
            simp [Instr.buildSlice, run_underlying hu, sizeOf, typeInfo, zeroValue, h5, h2, hsmall, c2, e1, newRow]
          obtain ⟨g1, g2⟩ := h.alloc rfl (orel_cells W.heap.size ie.size e e2)
          exact ⟨_, _, _, hrun, g1, slice_new _ _ rfl len len len (.inl ⟨hcap, rfl⟩), g2⟩
    · cases hi
  · cases hi

end
end Go.Ideal
