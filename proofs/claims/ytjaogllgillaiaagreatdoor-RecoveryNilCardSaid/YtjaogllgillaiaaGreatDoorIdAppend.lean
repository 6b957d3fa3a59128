/-
  Part of the proof: the machine that runs a program by fixed orders, and that each of its runs is a run of the model; or a run of it in parts. No conditions.
-/
import Derived.Test.YtjaogllgillaiaaGreatDoorIdOps4
import Derived.Laws.Append
namespace Go.Ideal
section
variable {P : Program} {base : Env} {W0 : World} {μ : Inj} {H : IHeap} {W : World}

/-- What is appended or copied: how many elements, and their cells. -/
noncomputable def isrc (sz : Nat) (x : Value) (H : IHeap) : Option (Nat × List Value) :=
  match x with
  | .slice none n _ => bif Nat.beq n 0 then some (0, []) else none
  | .slice (some ⟨b, off, none⟩) n _ =>
    bif Nat.beq (n * sz) 0 then some (n, []) else
    match H.get b with
    | some (.cells cs _ _) => let l := (cs.drop off).take (n * sz); bif Nat.beq l.length (n * sz) then some (n, l) else none
    | _ => none
  | .string s => bif Nat.beq sz 1 then some (s.size, s.data.toList.map fun b => .int .u8 b.toNat) else none
  | _ => none

/-- The first 'k' elements of it. -/
theorem src_sim (h : HRel base W0 μ H W) {sz n k : Nat} {x x' : Value} {l : List Value} (hx : VRel μ x x') (hi : isrc sz x H = some (n, l)) (hk : k ≤ n) :
    (Builtin.lenOf x').run P W = .ok n W ∧ l.length = n * sz ∧ ∃ l', LRel μ (l.take (k * sz)) l' ∧ (Builtin.firstCells sz k x').run P W = .ok l'.toArray W := by
  unfold isrc at hi
  split at hi
  · rename_i m c
    cases hx
    cases hb : Nat.beq m 0
    · simp [hb] at hi
    · simp only [hb, cond_true, Option.some.injEq, Prod.mk.injEq] at hi
      obtain ⟨rfl, rfl⟩ := hi
      have := Nat.eq_of_beq_eq_true hb
      subst this
      exact ⟨rfl, by simp, [], by simpa using LRel.nil, rfl⟩
  · rename_i b off m c
    cases hx with
    | slice _ _ _ _ cap' o' T hm hc ho =>
      cases hb : Nat.beq (m * sz) 0
      · simp only [hb, cond_false] at hi
        have hnz : m * sz ≠ 0 := by intro e; rw [e] at hb; cases hb
        split at hi
        · rename_i cs e ro hget
          cases hl : Nat.beq ((cs.drop off).take (m * sz)).length (m * sz)
          · rw [hl] at hi; cases hi
          · rw [hl] at hi
            simp only [cond_true, Option.some.injEq, Prod.mk.injEq] at hi
            obtain ⟨rfl, rfl⟩ := hi
            have hlen := Nat.eq_of_beq_eq_true hl
            have hoff : o' = T.d + off := by
              rcases ho with ho | ⟨h1, _⟩
              · exact ho
              · subst h1; simp at hnz
            subst hoff
            have hkk : k * sz ≤ m * sz := Nat.mul_le_mul_right sz hk
            have hlk : (((cs.drop off).take (m * sz)).take (k * sz)).length = k * sz := by rw [List.length_take, hlen]; omega
            obtain ⟨l', r1, r2, _⟩ := h.row hget hm (off := off) (l := ((cs.drop off).take (m * sz)).take (k * sz)) (by rw [hlk, List.take_take, Nat.min_eq_left hkk]) P
            rw [hlk] at r2
            exact ⟨rfl, hlen, l', r1, r2⟩
        · cases hi
      · simp only [hb, cond_true, Option.some.injEq, Prod.mk.injEq] at hi
        obtain ⟨rfl, rfl⟩ := hi
        have hz := Nat.eq_of_beq_eq_true hb
        have hkk : k * sz ≤ m * sz := Nat.mul_le_mul_right sz hk
        have hk0 : k * sz = 0 := by omega
        refine ⟨rfl, by simp [hz], [], by simpa using LRel.nil, ?_⟩
        simp [Builtin.firstCells, hk0, loadCells, loadCellsFrom]
  · rename_i s
    cases hx
    cases hb : Nat.beq sz 1
    · simp [hb] at hi
    · simp only [hb, cond_true, Option.some.injEq, Prod.mk.injEq] at hi
      obtain ⟨rfl, rfl⟩ := hi
      have := Nat.eq_of_beq_eq_true hb
      subst this
      refine ⟨rfl, by rw [List.length_map, Nat.mul_one]; rfl, (s.extract 0 k).data.toList.map fun b => .int .u8 b.toNat, ?_, by
        show Result.ok ((s.extract 0 k).data.map _) W = _
        congr 1
        apply Array.ext'
        rw [Array.toList_map]⟩
      have : (s.extract 0 k).data.toList = s.data.toList.take k := by simp [ByteArray.data_extract]
      rw [Nat.mul_one, ← List.map_take, ← this]
      exact LRel.map _ _ _ fun b _ => .int _ _
  · cases hi

theorem growBy_le (newLen : Nat) : ∀ (k c : Nat), c < newLen → Builtin.growBy newLen k c ≤ newLen + newLen / 4 + 192 := by
  intro k
  induction k with
  | zero => intro c h; simp only [Builtin.growBy]; omega
  | succ k ih =>
    intro c h
    simp only [Builtin.growBy]
    rw [if_neg (by omega)]
    rcases Nat.lt_or_ge (c + (c + 768) / 4) newLen with h1 | h1
    · exact ih _ h1
    · cases k with
      | zero => simp only [Builtin.growBy]; omega
      | succ k => simp only [Builtin.growBy]; rw [if_pos h1]; omega
theorem nextcap_le {need cap : Nat} (h : cap < need) : Builtin.nextslicecap need cap ≤ 2 * need + 192 := by
  unfold Builtin.nextslicecap
  split
  · omega
  · split
    · omega
    · have := growBy_le need 4 cap h; omega

/-- Append in place: the cells are there. -/
theorem run_append_in {argTypes : Array TypeId} {ty sT xT e : TypeId} {d : TypeDesc} {i : TypeInfo} {bs : Option Addr} {len cap n : Nat} {x : Value} {l : List Value} {w' : World}
    (ht : argTypes.toList = [sT, xT]) (hu : P.underlying sT = some (.slice e)) (hux : P.underlying xT = some d) (hd : d = .string ∨ ∃ q, d = .slice q) (hi : P.info? e = some i) (hn : (Builtin.lenOf x).run P W = .ok n W) (hc : len + n ≤ cap)
    (hf : (Builtin.firstCells i.size n x).run P W = .ok l.toArray W) (hst : ∀ a, bs = some a → (storeCells (a.add (len * i.size)) l).run P W = .ok () w') (hno : bs = none → w' = W) :
    (Builtin.append_ argTypes ty #[.slice bs len cap, x]).run P W = .ok (.slice bs (len + n) cap) w' := by
  obtain rfl : argTypes = #[sT, xT] := by rw [← Array.toList_inj]; simpa using ht
  cases bs with
  | none =>
    obtain rfl := hno rfl
    rcases hd with rfl | ⟨q, rfl⟩ <;> simp [Builtin.append_, run_underlying hu, run_underlying hux, sizeOf, typeInfo, hi, hn, hc, hf]
  | some a =>
    have hst := hst a rfl
    rcases hd with rfl | ⟨q, rfl⟩ <;> simp [Builtin.append_, run_underlying hu, run_underlying hux, sizeOf, typeInfo, hi, hn, hc, hf, hst]

/-- Append into a new block. -/
theorem run_append_grow' {argTypes : Array TypeId} {ty sT xT e : TypeId} {d : TypeDesc} {i : TypeInfo} {bs : Option Addr} {len cap n : Nat} {x z : Value} {l lo : List Value}
    (ht : argTypes.toList = [sT, xT]) (hu : P.underlying sT = some (.slice e)) (hux : P.underlying xT = some d) (hd : d = .string ∨ ∃ q, d = .slice q) (hi : P.info? e = some i) (hz : i.zero = some z) (hn : (Builtin.lenOf x).run P W = .ok n W) (hc : ¬ len + n ≤ cap)
    (hb : (2 * (len + n) + 192) * i.bytes ≤ 281474976710656) (hneed : len + n ≤ 4611686018427387904)
    (hf : (Builtin.firstCells i.size n x).run P W.drew = .ok l.toArray W.drew) (hfo : (Builtin.firstCells i.size len (.slice bs len cap)).run P W.drew = .ok lo.toArray W.drew) :
    ∃ newCap, len + n ≤ newCap ∧ newCap ≤ 9223372036854775807 ∧ (Builtin.append_ argTypes ty #[.slice bs len cap, x]).run P W = .ok (.slice (some ⟨W.heap.size, 0, none⟩) (len + n) newCap)
      (W.drew.alloc (.cells (lo.toArray ++ l.toArray ++ Builtin.zeroCells z.cells (newCap - (len + n))) e)) := by
  obtain rfl : argTypes = #[sT, xT] := by rw [← Array.toList_inj]; simpa using ht
  have hnc := nextcap_le (need := len + n) (cap := cap) (by omega)
  have h48 : ¬ (281474976710656 < Builtin.nextslicecap (len + n) cap * i.bytes) := by
    have := Nat.mul_le_mul_right i.bytes hnc
    omega
  have h63 : ¬ (9223372036854775807 < ((len : Int) + (n : Int))) := by omega
  refine ⟨grownCap W (len + n) cap e, by simp [grownCap, Question.cut], by simp only [grownCap, Question.cut]; have := Nat.mod_lt (W.tape W.drawn (.appendCap (len + n) cap e)) (y := 2 ^ 63 - (len + n)) (by omega); omega, ?_⟩
  rcases hd with rfl | ⟨q, rfl⟩ <;>
    (simp [Builtin.append_, run_underlying hu, run_underlying hux, sizeOf, typeInfo, zeroValue, hi, hz, hn, hc, h63, h48, Question.forced, hf, hfo, newRow, grownCap]
     congr 2
     apply Array.ext'
     simp [List.append_assoc])

/-! The ideal append. -/
noncomputable def iappIn (sz len n cap : Nat) (a : Option Addr) (new : List Value) (H : IHeap) : Option (Value × IHeap) :=
  match a with
  | some ⟨b, off, none⟩ =>
    match H.get b with
    | some (.cells cs e false) =>
      bif Nat.ble (off + len * sz + new.length) cs.length then some (.slice a (len + n) cap, H.put b (.cells (splice cs (off + len * sz) new) e false)) else none
    | _ => none
  | _ => none

noncomputable def iappGrow (sz bytes len n : Nat) (a : Value) (new : List Value) (H : IHeap) : Option (Value × IHeap) :=
  match isrc sz a H with
  | some (_, old) =>
    bif Nat.ble ((2 * (len + n) + 192) * bytes) 281474976710656 && Nat.ble (len + n) 4611686018427387904 then
      some (.slice (some ⟨H.next, 0, none⟩) (len + n) (capU + (len + n)), H.alloc (.cells (old ++ new) sz false))
    else none
  | none => none

noncomputable def iappRetire (sz bytes len n : Nat) (s : Value) (new : List Value) (H : IHeap) : Option (Value × IHeap) :=
  match s with
  | .slice (some ⟨b, off, none⟩) _ _ =>
    match H.get b with
    | some (.cells cs e false) =>
      let old := (cs.drop off).take (len * sz)
      bif Nat.beq old.length (len * sz) && Nat.beq e sz && Nat.ble ((2 * (len + n) + 192) * bytes) 281474976710656 && Nat.ble (len + n) 4611686018427387904 then
        some (.slice (some ⟨H.next, 0, none⟩) (len + n) (capU + (len + n)), (H.del b).alloc (.cells (old ++ new) sz false))
      else none
    | _ => none
  | _ => none

noncomputable def iappTo (sz bytes : Nat) (s : Value) (n : Nat) (new : List Value) (H : IHeap) : Option (Value × IHeap) :=
  match s with
  | .slice a len cap =>
    bif Nat.beq n 0 then (bif Nat.ble len cap then some (s, H) else none)
    else bif Nat.blt cap capU then
      bif Nat.ble (len + n) cap then iappIn sz len n cap a new H else iappGrow sz bytes len n s new H
    else bif Nat.ble (len + n) (cap - capU) then iappIn sz len n cap a new H
    else iappRetire sz bytes len n s new H
  | _ => none

def sliceOrString : Option TypeDesc → Bool
  | some .string => true
  | some (.slice _) => true
  | _ => false

def isIntD : Option TypeDesc → Bool
  | some (.int _) => true
  | _ => false
def isrcZ (z : List Value) (bytes : Nat) (x : Value) : Option (Nat × List Value) :=
  match x with
  | .int _ (.ofNat n) => bif Nat.ble (n * bytes) 281474976710656 && Nat.ble n 9223372036854775807 then some (n, zerosL z (n * z.length)) else none
  | _ => none
noncomputable def iappend (P : Program) (argTypes : Array TypeId) (args : List Value) (H : IHeap) : Option (Value × IHeap) :=
  match argTypes.toList, args with
  | [sT, xT], [s, x] =>
    match P.underlying sT with
    | some (.slice e) =>
      match P.info? e, zeroL P e with
      | some i, some z =>
        bif isIntD (P.underlying xT) then
          match isrcZ z i.bytes x with
          | some (n, new) => bif new.all okCell && Nat.beq z.length i.size then iappTo i.size i.bytes s n new H else none
          | none => none
        else
        match isrc i.size x H with
        | some (n, new) =>
          bif sliceOrString (P.underlying xT) && new.all okCell && Nat.beq z.length i.size then iappTo i.size i.bytes s n new H else none
        | none => none
      | _, _ => none
    | _ => none
  | _, _ => none

theorem stores_len {l l' : List Value} (h : LRel μ l l') : l'.length = l.length := h.length.symm

/-- 'storeCells' over cells that are there and not frozen: what the block holds then. -/
theorem run_stores_raw (P : Program) (c : Nat) (t : TypeId) (fz : Nat × Nat) : ∀ (l : List Value) (k o : Nat) (a : Array Value) (w : World), w.heap[c]? = some (.cells a t fz) → o + k + l.length ≤ a.size → (∀ i, i < a.size → ¬ (fz.1 ≤ i ∧ i < fz.2)) → (∀ v ∈ l, v.oneCell' = true) →
    ∃ w' a', (storeCells ⟨c, o, none⟩ l k).run P w = .ok () w' ∧ w'.heap[c]? = some (.cells a' t fz) ∧ a'.toList = splice a.toList (o + k) l ∧ w'.heap.size = w.heap.size ∧ (∀ i, i ≠ c → w'.heap[i]? = w.heap[i]?) ∧ w'.output = w.output ∧ w'.os = w.os := by
  intro l
  induction l with
  | nil => intro k o a w hw _ _ _; exact ⟨w, a, rfl, hw, by rw [splice_nil], rfl, fun _ _ => rfl, rfl, rfl⟩
  | cons v l ih =>
    intro k o a w hw hlen hf h1
    simp only [List.length_cons] at hlen
    have hadd : (⟨c, o, none⟩ : Addr).add k = ⟨c, o + k, none⟩ := add_eq c o k
    have hcell : w.cell? ⟨c, o + k, none⟩ = some (a[o + k]'(by omega)) := by
      simp only [World.cell?, hw]
      simp
    have hfz : w.frozen? ⟨c, o + k, none⟩ = false := by
      have := hf (o + k) (by omega)
      simp only [World.frozen?, hw]
      simp only [Bool.and_eq_false_iff, decide_eq_false_iff_not]
      omega
    have hst : (store ((⟨c, o, none⟩ : Addr).add k) v).run P w = .ok () (w.setCell ⟨c, o + k, none⟩ v) := by
      rw [hadd, run_store P w _ v _ (h1 v (by simp))]
      simp [hcell, hfz]
    have hw1 : (w.setCell ⟨c, o + k, none⟩ v).heap[c]? = some (.cells (a.setIfInBounds (o + k) v) t fz) := by
      simp only [World.setCell, Array.getElem?_modify, if_true, hw]
      rfl
    obtain ⟨w', a', r1, r2, r3, r4, r5, r6, r7⟩ := ih (k + 1) o (a.setIfInBounds (o + k) v) (w.setCell ⟨c, o + k, none⟩ v) hw1 (by simp; omega) (by simpa using hf) (fun x hx => h1 x (by simp [hx]))
    refine ⟨w', a', ?_, r2, ?_, ?_, ?_, r6, r7⟩
    · simp only [storeCells, Sem.run_bind, hst, Result.andThen_ok, r1]
    · rw [r3, splice_cons _ _ _ _ (by simp; omega), Array.toList_setIfInBounds]; rfl
    · rw [r4]; simp
    · intro i hi
      rw [r5 i hi]
      simp only [World.setCell, Array.getElem?_modify]
      rw [if_neg (Ne.symm hi)]

theorem sliceOrString_eq {o : Option TypeDesc} (h : sliceOrString o = true) : ∃ d, o = some d ∧ (d = .string ∨ ∃ q, d = .slice q) := by
  unfold sliceOrString at h
  split at h
  · exact ⟨_, rfl, .inl rfl⟩
  · exact ⟨_, rfl, .inr ⟨_, rfl⟩⟩
  · cases h

theorem zeroCells_len (z : Array Value) (n : Nat) : (Builtin.zeroCells z n).size = n * z.size := by simp [Builtin.zeroCells]

/-- What is appended, as the machine takes it. -/
structure AppSrc (P : Program) (μ : Inj) (W : World) (argTypes : Array TypeId) (ty e : TypeId) (i : TypeInfo) (zz x' : Value) (n : Nat) (new : List Value) : Prop where
  inR : ∃ new', LRel μ new new' ∧ ∀ (bs : Option Addr) (len cap : Nat) (w' : World), len + n ≤ cap → (∀ a, bs = some a → (storeCells (a.add (len * i.size)) new').run P W = .ok () w') → (bs = none → w' = W) →
    (Builtin.append_ argTypes ty #[.slice bs len cap, x']).run P W = .ok (.slice bs (len + n) cap) w'
  growR : ∃ new2, LRel μ new new2 ∧ ∀ (bs : Option Addr) (len cap : Nat) (lo : List Value), ¬ len + n ≤ cap → (2 * (len + n) + 192) * i.bytes ≤ 281474976710656 → len + n ≤ 4611686018427387904 →
    (Builtin.firstCells i.size len (.slice bs len cap)).run P W.drew = .ok lo.toArray W.drew → ∃ newCap, len + n ≤ newCap ∧ newCap ≤ 9223372036854775807 ∧ (Builtin.append_ argTypes ty #[.slice bs len cap, x']).run P W = .ok (.slice (some ⟨W.heap.size, 0, none⟩) (len + n) newCap)
      (W.drew.alloc (.cells (lo.toArray ++ new2.toArray ++ Builtin.zeroCells zz.cells (newCap - (len + n))) e))

theorem append_core (h : HRel base W0 μ H W) {argTypes : Array TypeId} {ty e : TypeId} {i : TypeInfo} {zz s s' x' v : Value} {n : Nat} {new : List Value} {H' : IHeap} (hs : VRel μ s s') (hsrc : AppSrc P μ W argTypes ty e i zz x' n new) (hzsz : zz.cells.size = i.size)
    (hnl : new.length = n * i.size) (hok : new.all okCell = true) (hi : iappTo i.size i.bytes s n new H = some (v, H')) :
    ∃ μ' v' W', (Builtin.append_ argTypes ty #[s', x']).run P W = .ok v' W' ∧ HRel base W0 μ' H' W' ∧ VRel μ' v v' ∧ Evolve μ H μ' H' := by
  obtain ⟨new', hn1, hinR⟩ := hsrc.inR
  have hgrow : ∀ (bs : Option Addr) (len cap' : Nat) (old : List Value) (Hd : IHeap), HRel base W0 μ Hd W → Evolve μ H μ Hd → ¬ len + n ≤ cap' → (2 * (len + n) + 192) * i.bytes ≤ 281474976710656 → len + n ≤ 4611686018427387904 → old.length = len * i.size →
      (∃ old', LRel μ old old' ∧ (Builtin.firstCells i.size len (.slice bs len cap')).run P W.drew = .ok old'.toArray W.drew) →
      ∃ μ' v' W', (Builtin.append_ argTypes ty #[.slice bs len cap', x']).run P W = .ok v' W' ∧ HRel base W0 μ' (Hd.alloc (.cells (old ++ new) i.size false)) W' ∧
        VRel μ' (.slice (some ⟨Hd.next, 0, none⟩) (len + n) (capU + (len + n))) v' ∧ Evolve μ H μ' (Hd.alloc (.cells (old ++ new) i.size false)) := by
    intro bs len cap' old Hd hd0 hev hnc hbig hbig2 holen ⟨old', o1, o2⟩
    obtain ⟨new2, m1, hgr⟩ := hsrc.growR
    obtain ⟨newCap, g1, g1b, g2⟩ := hgr bs len cap' old' hnc hbig hbig2 o2
    have hal := (hd0.drawn (W.drawn + 1)).alloc (T := ⟨W.heap.size, 0, newCap * i.size, i.size⟩) (o := .cells (old ++ new) i.size false) (o' := .cells (old'.toArray ++ new2.toArray ++ Builtin.zeroCells zz.cells (newCap - (len + n))) e) rfl ?_
    · refine ⟨_, _, _, g2, hal.1, slice_new _ _ rfl _ _ _ (.inr ⟨by omega, by omega, g1, ?_, .inr g1b⟩), hev.trans hal.2⟩
      show 0 + newCap * i.size ≤ newCap * i.size
      omega
    · have e1 := o1.length
      have e2 := m1.length
      refine .cells ⟨W.heap.size, 0, newCap * i.size, i.size⟩ _ _ false _ e 0 0 rfl ?_ ?_ (fun _ j _ => by omega)
      · simp only [List.drop_zero, Array.toList_append, List.append_assoc]
        rw [← List.append_assoc, List.take_append_of_le_length (by simp; omega), List.take_of_length_le (by simp; omega)]
        exact o1.append m1
      · simp only [Array.size_append, List.size_toArray, zeroCells_len, hzsz, Nat.zero_add]
        rw [← e1, ← e2, holen, hnl, ← Nat.add_mul, ← Nat.add_mul]
        congr 1
        omega
  unfold iappTo at hi
  split at hi
  · rename_i a len cap
    cases hn0 : Nat.beq n 0
    · simp only [hn0, cond_false] at hi
      have hnpos : n ≠ 0 := by intro e; rw [e] at hn0; cases hn0
      -- in place, surely
      have hin : ∀ (cap' : Nat), s' = .slice (match s' with | .slice a _ _ => a | _ => none) len cap' → len + n ≤ cap' → iappIn i.size len n cap a new H = some (v, H') →
          ∃ μ' v' W', (Builtin.append_ argTypes ty #[s', x']).run P W = .ok v' W' ∧ HRel base W0 μ' H' W' ∧ VRel μ' v v' ∧ Evolve μ H μ' H' := by
        intro cap' hs' hle hin
        unfold iappIn at hin
        split at hin
        · rename_i b off
          cases hs with
          | slice _ _ _ _ cap2 o' T hm hcr ho =>
            have hcc : cap2 = cap' := by injection hs'
            subst hcc
            split at hin
            · rename_i cs ee hget
              cases hbb : Nat.ble (off + len * i.size + new.length) cs.length
              · simp [hbb] at hin
              · simp only [hbb, cond_true, Option.some.injEq, Prod.mk.injEq] at hin
                obtain ⟨rfl, rfl⟩ := hin
                have hbb := Nat.le_of_ble_eq_true hbb
                have hoo : o' = T.d + off := by
                  rcases ho with ho | ⟨h1, h2⟩
                  · exact ho
                  · omega
                subst hoo
                obtain ⟨W', w1, w2, w3⟩ := HRel.stores P hm new new' H W cs (off + len * i.size) 0 h hget hn1 hok (by omega)
                refine ⟨μ, _, W', hinR _ _ _ _ hle (fun a ha => ?_) (fun ha => by cases ha), w2, ?_, w3⟩
                · cases ha
                  rw [add_eq, Nat.add_assoc]
                  exact w1
                · refine .slice b off _ _ _ _ T hm ?_ (.inl rfl)
                  rcases hcr with ⟨c1, c2⟩ | ⟨c1, c2, c3, c4, c5⟩
                  · exact .inl ⟨c1, c2⟩
                  · exact .inr ⟨c1, c2, hle, c4, c5⟩
            · cases hin
        · cases hin
      cases hx1 : Nat.blt cap capU
      · simp only [hx1, cond_false] at hi
        have hcapU : capU ≤ cap := by
          rcases Nat.lt_or_ge cap capU with hh | hh
          · exact absurd (Nat.ble_eq_true_of_le hh) (by rw [show Nat.ble (cap + 1) capU = Nat.blt cap capU from rfl, hx1]; decide)
          · exact hh
        cases hx2 : Nat.ble (len + n) (cap - capU)
        · simp only [hx2, cond_false] at hi
          unfold iappRetire at hi
          split at hi
          · rename_i b off _ _ heq
            cases heq
            split at hi
            · rename_i cs ee hget
              cases hbb : (Nat.beq ((cs.drop off).take (len * i.size)).length (len * i.size) && Nat.beq ee i.size && Nat.ble ((2 * (len + n) + 192) * i.bytes) 281474976710656 && Nat.ble (len + n) 4611686018427387904)
              · simp only [hbb, cond_false] at hi; cases hi
              · simp only [hbb, cond_true, Option.some.injEq, Prod.mk.injEq] at hi
                obtain ⟨rfl, rfl⟩ := hi
                simp only [Bool.and_eq_true] at hbb
                obtain ⟨⟨⟨b1, b2⟩, b3⟩, b4⟩ := hbb
                have b1 := Nat.eq_of_beq_eq_true b1
                have b2 := Nat.eq_of_beq_eq_true b2
                have b3 := Nat.le_of_ble_eq_true b3
                have b4 := Nat.le_of_ble_eq_true b4
                subst b2
                cases hs with
                | slice _ _ _ _ cap' o' T hm hcr ho =>
                  have hcr' : cap - capU ≤ cap' ∧ len ≤ cap' ∧ off + cap' * T.e ≤ T.r ∧ (T.e = 1 ∨ cap' ≤ 9223372036854775807) := by
                    rcases hcr with ⟨c1, c2⟩ | ⟨c1, c2, c3, c4, c5⟩
                    · omega
                    · exact ⟨c2, c3, c4, c5⟩
                  obtain ⟨c2, c3, c4, c5⟩ := hcr'
                  obtain ⟨hdel, hdelE⟩ := h.del hm
                  by_cases hfit : len + n ≤ cap'
                  · have hoo : o' = T.d + off := by
                      rcases ho with ho | ⟨h1, h2⟩
                      · exact ho
                      · omega
                    subst hoo
                    obtain ⟨ob, hob, hor⟩ := h.obj b _ hget T hm
                    cases hor with
                    | cells _ _ _ arr t lo hi2 hTe hcl hsz hfz =>
                      rw [← hTe] at c4
                      have hne1 : len * i.size + n * i.size ≤ cap' * i.size := by rw [← Nat.add_mul]; exact Nat.mul_le_mul_right _ hfit
                      have hcslen := hcl.length
                      have hn1l := hn1.length
                      obtain ⟨w', arr', r1, r2, r3, r4, r5, r6, r7⟩ := run_stores_raw P T.c t (lo, hi2) new' 0 (T.d + off + len * i.size) arr W hob (by omega) (fun j hj => hfz rfl j (.inl hj)) (fun q hq => by
                        obtain ⟨k, hk, rfl⟩ := List.getElem_of_mem hq
                        have hk2 : k < new.length := by omega
                        exact okCell_rel (hn1.idx k hk2 hk) (List.all_eq_true.1 hok _ (List.getElem_mem hk2)))
                      obtain ⟨φ, q⟩ := h.abs
                      have hmap := hdel.map_new (T := ⟨T.c, T.d + off, T.r - off, i.size⟩) (o := .cells ((cs.drop off).take (len * i.size) ++ new) i.size false) (W' := w') (by omega)
                        (fun j _ hj => r5 j hj)
                        (fun b' p T' hb' hm' => by
                          intro e1
                          rw [IHeap.get_del] at hb'
                          by_cases e2 : b' = b
                          · rw [if_pos e2] at hb'; cases hb'
                          · rw [if_neg e2] at hb'; exact e2 (h.inj b' b _ _ hb' hget T' T hm' hm e1))
                        ⟨φ, ⟨fun b' a ro T' h1 h2 => q.rep b' a ro T' (IHeap.get_of_del h1).2 h2, fun b' a ro T' h1 h2 b2 o2 T2 h3 h4 h5 => q.far b' a ro T' (IHeap.get_of_del h1).2 h2 b2 o2 T2 (IHeap.get_of_del h3).2 h4 h5⟩,
                          fun b' a ro h1 ⟨T', h2⟩ => (q.far b' a ro T' (IHeap.get_of_del h1).2 h2 b _ T hget hm (Ne.symm (IHeap.get_of_del h1).1)).1⟩
                        r2 (h.own b _ hget rfl T hm) ?_ r6 r7
                      · refine ⟨_, _, w', hinR _ _ _ _ hfit (fun a ha => ?_) (fun ha => by cases ha), hmap.1, ?_, hdelE.trans hmap.2⟩
                        · cases ha
                          rw [add_eq]
                          exact r1
                        · exact .slice H.next 0 _ _ _ _ ⟨T.c, T.d + off, T.r - off, i.size⟩ (Inj.ext_same _ _ _) (.inr ⟨by omega, by omega, hfit, by show 0 + cap' * i.size ≤ T.r - off; omega, by show i.size = 1 ∨ _; omega⟩) (.inl rfl)
                      · refine .cells ⟨T.c, T.d + off, T.r - off, i.size⟩ _ _ false _ t lo hi2 rfl ?_ ?_ ?_
                        · have hal : arr.toList.length = arr.size := by simp
                          show LRel μ _ (List.take _ (List.drop (T.d + off) arr'.toList))
                          rw [r3, Nat.add_zero]
                          have hold : LRel μ ((cs.drop off).take (len * i.size)) ((arr.toList.drop (T.d + off)).take (len * i.size)) := by
                            have := (hcl.drop off).take (len * i.size)
                            rw [List.drop_take, List.drop_drop, List.take_take, Nat.min_eq_left (by rw [List.length_take, List.length_drop] at b1; omega)] at this
                            exact this
                          have hsplit : (splice arr.toList (T.d + off + len * i.size) new').drop (T.d + off) = ((arr.toList.drop (T.d + off)).take (len * i.size)) ++ (new' ++ arr.toList.drop (T.d + off + len * i.size + new'.length)) := by
                            unfold splice
                            rw [List.drop_append_of_le_length (by simp; omega), List.drop_take]
                            congr 2
                            omega
                          have hol := hold.length
                          generalize hO : (cs.drop off).take (len * i.size) = O at hold hol b1 ⊢
                          generalize hO' : (arr.toList.drop (T.d + off)).take (len * i.size) = O' at hold hol hsplit
                          rw [hsplit, ← List.append_assoc, List.take_append_of_le_length (by simp only [List.length_append]; omega), List.take_of_length_le (l := O' ++ new') (by simp only [List.length_append]; omega)]
                          exact hold.append hn1
                        · show arr'.size = T.d + off + (T.r - off)
                          have : arr'.toList.length = arr.size := by
                            rw [r3]; unfold splice
                            simp only [List.length_append, List.length_take, List.length_drop, Array.length_toList]
                            omega
                          rw [Array.length_toList] at this
                          omega
                        · intro _ j hj
                          refine hfz rfl j ?_
                          have hsame : arr'.size = arr.size → (j < arr.size ∨ (j = arr.size ∧ i.size ≠ 1)) := fun e => by rw [← e]; exact hj
                          refine hsame ?_
                          have : arr'.toList.length = arr.size := by
                            rw [r3]; unfold splice
                            simp only [List.length_append, List.length_take, List.length_drop, Array.length_toList]
                            omega
                          rw [Array.length_toList] at this
                          omega
                  · refine hgrow _ len cap' _ (H.del b) hdel hdelE hfit b3 b4 b1 ?_
                    have hsrcq : ∃ q, isrc i.size (.slice (some ⟨b, off, none⟩) len cap) H = some (len, q) ∧ q = (cs.drop off).take (len * i.size) := by
                      unfold isrc
                      cases hz0 : Nat.beq (len * i.size) 0
                      · simp only [hz0, cond_false, hget]
                        rw [show Nat.beq ((cs.drop off).take (len * i.size)).length (len * i.size) = true by rw [b1]; exact Nat.beq_refl _]
                        exact ⟨_, rfl, rfl⟩
                      · simp only [hz0, cond_true]
                        have hz0 := Nat.eq_of_beq_eq_true hz0
                        exact ⟨[], rfl, by rw [hz0]; simp⟩
                    obtain ⟨q, hq1, hq2⟩ := hsrcq
                    obtain ⟨_, ol, old', o1, o2⟩ := src_sim (P := P) (h.drawn (W.drawn + 1)) (VRel.slice b off len cap cap' o' T hm hcr ho) hq1 (Nat.le_refl len)
                    rw [List.take_of_length_le (by omega), hq2] at o1
                    exact ⟨old', o1, o2⟩
            · cases hi
          · cases hi
        · simp only [hx2, cond_true] at hi
          have hx2 := Nat.le_of_ble_eq_true hx2
          cases hs with
          | nilslice => unfold iappIn at hi; simp at hi
          | vslice => unfold iappIn at hi; simp at hi
          | slice b o _ _ cap' o' T hm hcr ho =>
            refine hin cap' rfl ?_ hi
            rcases hcr with ⟨c1, c2⟩ | ⟨c1, c2, c3, c4, c5⟩ <;> omega
      · simp only [hx1, cond_true] at hi
        have hx1 : cap < capU := Nat.le_of_ble_eq_true hx1
        cases hx2 : Nat.ble (len + n) cap
        · simp only [hx2, cond_false] at hi
          have hx2 : ¬ len + n ≤ cap := fun hh => by rw [Nat.ble_eq_true_of_le hh] at hx2; cases hx2
          unfold iappGrow at hi
          split at hi
          · rename_i m old hso
            cases hbb : (Nat.ble ((2 * (len + n) + 192) * i.bytes) 281474976710656 && Nat.ble (len + n) 4611686018427387904)
            · simp only [hbb, cond_false] at hi; cases hi
            · simp only [hbb, cond_true, Option.some.injEq, Prod.mk.injEq] at hi
              obtain ⟨rfl, rfl⟩ := hi
              simp only [Bool.and_eq_true] at hbb
              have b1 := Nat.le_of_ble_eq_true hbb.1
              have b2 := Nat.le_of_ble_eq_true hbb.2
              have hlen2 := (src_sim (P := P) h hs hso (Nat.zero_le m)).1
              cases hs with
              | vslice => simp [isrc] at hso
              | nilslice =>
                have hml : len = m := by simpa [Builtin.lenOf] using hlen2
                subst hml
                obtain ⟨_, ol, old', o1, o2⟩ := src_sim (P := P) (h.drawn (W.drawn + 1)) (VRel.nilslice len cap) hso (Nat.le_refl len)
                rw [List.take_of_length_le (by omega)] at o1
                exact hgrow none len cap old H h (Evolve.refl _ _) hx2 b1 b2 ol ⟨old', o1, o2⟩
              | slice b o _ _ cap' o' T hm hcr ho =>
                have hml : len = m := by simpa [Builtin.lenOf] using hlen2
                subst hml
                have hce : cap' = cap := by rcases hcr with ⟨_, c2⟩ | ⟨c1, _⟩ <;> omega
                subst hce
                obtain ⟨_, ol, old', o1, o2⟩ := src_sim (P := P) (h.drawn (W.drawn + 1)) (VRel.slice b o len cap' cap' o' T hm hcr ho) hso (Nat.le_refl len)
                rw [List.take_of_length_le (by omega)] at o1
                exact hgrow _ len cap' old H h (Evolve.refl _ _) hx2 b1 b2 ol ⟨old', o1, o2⟩
          · cases hi
        · simp only [hx2, cond_true] at hi
          have hx2 := Nat.le_of_ble_eq_true hx2
          cases hs with
          | nilslice => unfold iappIn at hi; simp at hi
          | vslice => unfold iappIn at hi; simp at hi
          | slice b o _ _ cap' o' T hm hcr ho =>
            refine hin cap' rfl ?_ hi
            rcases hcr with ⟨c1, c2⟩ | ⟨c1, c2, c3, c4, c5⟩ <;> omega
    · simp only [hn0, cond_true] at hi
      have hn0 := Nat.eq_of_beq_eq_true hn0
      subst hn0
      have hnew : new' = [] := by
        have := hn1.length
        rw [hnl] at this
        exact List.eq_nil_of_length_eq_zero (by omega)
      subst hnew
      cases hle : Nat.ble len cap
      · simp [hle] at hi
      · simp only [hle, cond_true, Option.some.injEq, Prod.mk.injEq] at hi
        obtain ⟨rfl, rfl⟩ := hi
        have hle := Nat.le_of_ble_eq_true hle
        cases hs with
        | vslice b j _ _ cap' o' T hm hcr ho =>
          refine ⟨μ, _, W, hinR _ _ _ _ ?_ (fun a ha => rfl) (fun ha => by cases ha), h, .vslice b j _ _ _ o' T hm hcr ho, Evolve.refl _ _⟩
          rcases hcr with ⟨c1, c2⟩ | ⟨c1, c2, c3, c4, c5⟩ <;> omega
        | nilslice =>
          exact ⟨μ, _, W, hinR _ _ _ _ hle (fun a ha => by cases ha) (fun _ => rfl), h, .nilslice _ _, Evolve.refl _ _⟩
        | slice b o _ _ cap' o' T hm hcr ho =>
          refine ⟨μ, _, W, hinR _ _ _ _ ?_ (fun a ha => rfl) (fun ha => by cases ha), h, .slice b o _ _ _ o' T hm hcr ho, Evolve.refl _ _⟩
          rcases hcr with ⟨c1, c2⟩ | ⟨c1, c2, c3, c4, c5⟩ <;> omega
  · cases hi

theorem src_Z {argTypes : Array TypeId} {ty sT xT e : TypeId} {k : IntKind} {i : TypeInfo} {n : Nat} {kx : IntKind} {zz : Value} {z : List Value} (hz4 : zz.cells.toList = z) (hfl : flat zz = true)
    (ht : argTypes.toList = [sT, xT]) (hu : P.underlying sT = some (.slice e)) (hux : P.underlying xT = some (.int k)) (hi : P.info? e = some i) (hz : i.zero = some zz) (hzl : zz.cells.size = i.size) (hb : n * i.bytes ≤ 281474976710656) (hn : n ≤ 9223372036854775807) :
    AppSrc P μ W argTypes ty e i zz (.int kx (Int.ofNat n)) n (zerosL z (n * z.length)) := by
  obtain rfl : argTypes = #[sT, xT] := by rw [← Array.toList_inj]; simpa using ht
  have hw : IntKind.i64.wrap (n : Int) = (n : Int) := by rw [IntKind.wrap_i64]; omega
  have hnb : ¬ (281474976710656 < (n : Int) * (i.bytes : Int)) := by
    have : ((n * i.bytes : Nat) : Int) ≤ 281474976710656 := by omega
    rw [Int.natCast_mul] at this; omega
  have hn0 : ¬ ((n : Int) < 0) := by omega
  have hzn : z.length = zz.cells.size := by rw [← hz4]; simp
  have hlr : LRel μ (zerosL z (n * z.length)) (Builtin.zeroCells zz.cells n).toList := by
    have := zeros_sim (μ := μ) hfl hz4 (n * z.length)
    rw [hzn] at this ⊢
    exact this
  have hz0 : n * i.size = 0 → (Builtin.zeroCells zz.cells n) = #[] := by
    intro h0
    apply Array.eq_empty_of_size_eq_zero
    rw [zeroCells_len, hzl, h0]
  refine ⟨⟨_, hlr, fun bs len cap w' hc hst hno => ?_⟩, ⟨_, hlr, fun bs len cap lo hnc hbig hbig2 hfo => ?_⟩⟩
  · by_cases h0 : n * i.size = 0
    · rw [hz0 h0] at hst
      cases bs with
      | none =>
        obtain rfl := hno rfl
        simp [Builtin.append_, run_underlying hu, run_underlying hux, sizeOf, typeInfo, hi, asInt, asIntOf, hw, hnb, hn0, hc, h0]
      | some a =>
        have hst := hst a rfl
        simp [Builtin.append_, run_underlying hu, run_underlying hux, sizeOf, typeInfo, hi, asInt, asIntOf, hw, hnb, hn0, hc, h0, hst]
    · cases bs with
      | none =>
        obtain rfl := hno rfl
        simp [Builtin.append_, run_underlying hu, run_underlying hux, sizeOf, typeInfo, zeroValue, hi, hz, asInt, asIntOf, hw, hnb, hn0, hc]
      | some a =>
        have hst := hst a rfl
        simp [Builtin.append_, run_underlying hu, run_underlying hux, sizeOf, typeInfo, zeroValue, hi, hz, asInt, asIntOf, hw, hnb, hn0, hc, h0, hst]
  · have hnc' := nextcap_le (need := len + n) (cap := cap) (by omega)
    have h48 : ¬ (281474976710656 < Builtin.nextslicecap (len + n) cap * i.bytes) := by
      have := Nat.mul_le_mul_right i.bytes hnc'
      omega
    have h63 : ¬ (9223372036854775807 < ((len : Int) + (n : Int))) := by omega
    refine ⟨grownCap W (len + n) cap e, by simp [grownCap, Question.cut], by simp only [grownCap, Question.cut]; have := Nat.mod_lt (W.tape W.drawn (.appendCap (len + n) cap e)) (y := 2 ^ 63 - (len + n)) (by omega); omega, ?_⟩
    by_cases h0 : n * i.size = 0
    · rw [hz0 h0]
      simp [Builtin.append_, run_underlying hu, run_underlying hux, sizeOf, typeInfo, zeroValue, hi, hz, asInt, asIntOf, hw, hnb, hn0, hnc, h63, h48, Question.forced, h0, hfo, newRow, grownCap]
    · simp [Builtin.append_, run_underlying hu, run_underlying hux, sizeOf, typeInfo, zeroValue, hi, hz, asInt, asIntOf, hw, hnb, hn0, hnc, h63, h48, Question.forced, h0, hfo, newRow, grownCap]
theorem append_sim (h : HRel base W0 μ H W) {argTypes : Array TypeId} {args : List Value} {args' : Array Value} {ty : TypeId} {v : Value} {H' : IHeap} (ha : LRel μ args args'.toList) (hi : iappend P argTypes args H = some (v, H')) :
    ∃ μ' v' W', (Builtin.append_ argTypes ty args').run P W = .ok v' W' ∧ HRel base W0 μ' H' W' ∧ VRel μ' v v' ∧ Evolve μ H μ' H' := by
  unfold iappend at hi
  split at hi
  · rename_i sT xT s x hty
    obtain ⟨s', x', rfl, hs, hx⟩ : ∃ s' x', args' = #[s', x'] ∧ VRel μ s s' ∧ VRel μ x x' := by
      generalize hq : args'.toList = q at ha
      cases ha with
      | cons h1 h2 => cases h2 with
        | cons h3 h4 => cases h4; exact ⟨_, _, by rw [← Array.toList_inj, hq], h1, h3⟩
    split at hi
    · rename_i e hu
      split at hi
      · rename_i i z hie hz
        obtain ⟨i2, zz, q1, q2, q3, q4⟩ := zeroL_eq hz
        rw [hie] at q1; cases q1
        cases hint : isIntD (P.underlying xT)
        case true =>
          simp only [hint, cond_true] at hi
          split at hi
          · rename_i n new hsz
            cases hc : (new.all okCell && Nat.beq z.length i.size)
            · simp only [hc, cond_false] at hi; cases hi
            · simp only [hc, cond_true] at hi
              simp only [Bool.and_eq_true] at hc
              have hzl := Nat.eq_of_beq_eq_true hc.2
              obtain ⟨k, hux⟩ : ∃ k, P.underlying xT = some (.int k) := by
                unfold isIntD at hint
                split at hint
                · rename_i k e; exact ⟨k, e⟩
                · cases hint
              unfold isrcZ at hsz
              split at hsz
              · rename_i kx m
                cases hbb : (Nat.ble (m * i.bytes) 281474976710656 && Nat.ble m 9223372036854775807)
                · simp [hbb] at hsz
                · simp only [hbb, cond_true, Option.some.injEq, Prod.mk.injEq] at hsz
                  obtain ⟨rfl, rfl⟩ := hsz
                  simp only [Bool.and_eq_true] at hbb
                  cases hx
                  have hzsz : zz.cells.size = i.size := by rw [← hzl, ← q4]; simp
                  exact append_core (e := e) h hs (src_Z q4 q3 hty hu hux hie q2 hzsz (Nat.le_of_ble_eq_true hbb.1) (Nat.le_of_ble_eq_true hbb.2)) hzsz (by simp [zerosL, hzl]) hc.1 hi
              · cases hsz
          · cases hi
        case false =>
        simp only [hint, cond_false] at hi
        split at hi
        · rename_i n new hsrc
          cases hc : (sliceOrString (P.underlying xT) && new.all okCell && Nat.beq z.length i.size)
          · simp only [hc, cond_false] at hi; cases hi
          simp only [hc, cond_true] at hi
          simp only [Bool.and_eq_true] at hc
          obtain ⟨⟨hss, hok⟩, hzl⟩ := hc
          obtain ⟨d, hux, hd⟩ := sliceOrString_eq hss
          have hzl := Nat.eq_of_beq_eq_true hzl
          have hzsz : zz.cells.size = i.size := by rw [← hzl, ← q4]; simp
          obtain ⟨hlen, hnl, new', hn1, hn2⟩ := src_sim (P := P) h hx hsrc (Nat.le_refl n)
          rw [List.take_of_length_le (by omega)] at hn1
          refine append_core (e := e) h hs ⟨⟨new', hn1, fun bs len cap w' hc hst hno => run_append_in hty hu hux hd hie hlen hc hn2 hst hno⟩, ?_⟩ hzsz hnl hok hi
          obtain ⟨_, _, new2, m1, m2⟩ := src_sim (P := P) (h.drawn (W.drawn + 1)) hx hsrc (Nat.le_refl n)
          rw [List.take_of_length_le (by omega)] at m1
          exact ⟨new2, m1, fun bs len cap lo hnc hbig hbig2 o2 => run_append_grow' (ty := ty) (P := P) (W := W) (bs := bs) (cap := cap) hty hu hux hd hie q2 hlen hnc hbig hbig2 m2 o2⟩
        · cases hi
      · cases hi
    · cases hi
  · cases hi

end
end Go.Ideal
