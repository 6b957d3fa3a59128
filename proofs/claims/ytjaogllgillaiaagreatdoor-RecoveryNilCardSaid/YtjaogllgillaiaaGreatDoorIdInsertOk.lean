/-
  Part of the proof: the machine that runs a program by fixed orders, and that each of its runs is a run of the model; or a run of it in parts. No conditions.
-/
import Derived.Test.YtjaogllgillaiaaGreatDoorIdInsert
import Derived.Test.YtjaogllgillaiaaGreatDoorIdCtx
namespace Go.Ideal

theorem setCells_raw (c : Nat) (t : TypeId) (fz : Nat × Nat) : ∀ (l : List Value) (o : Nat) (a : Array Value) (w : World), w.heap[c]? = some (.cells a t fz) → o + l.length ≤ a.size →
    ∃ a' : Array Value, (w.setCells c o l).heap[c]? = some (.cells a' t fz) ∧ a'.toList = splice a.toList o l ∧ a'.size = a.size ∧ (w.setCells c o l).heap.size = w.heap.size ∧ (∀ i, i ≠ c → (w.setCells c o l).heap[i]? = w.heap[i]?) ∧ (w.setCells c o l).output = w.output ∧ (w.setCells c o l).os = w.os := by
  intro l
  induction l with
  | nil => intro o a w hw _; exact ⟨a, hw, by rw [splice_nil], rfl, rfl, fun _ _ => rfl, rfl, rfl⟩
  | cons v l ih =>
    intro o a w hw hlen
    simp only [List.length_cons] at hlen
    have hw1 : (w.setCell ⟨c, o, none⟩ v).heap[c]? = some (.cells (a.setIfInBounds o v) t fz) := by
      simp only [World.setCell, Array.getElem?_modify, if_true, hw]
      rfl
    obtain ⟨a', r1, r2, r2b, r3, r4, r5, r6⟩ := ih (o + 1) (a.setIfInBounds o v) (w.setCell ⟨c, o, none⟩ v) hw1 (by simp; omega)
    refine ⟨a', r1, ?_, by rw [r2b]; simp, ?_, ?_, r5, r6⟩
    · rw [r2, splice_cons _ _ _ _ (by simp; omega), Array.toList_setIfInBounds]
    · show ((w.setCell ⟨c, o, none⟩ v).setCells c (o + 1) l).heap.size = _
      rw [r3]; simp [World.setCell]
    · intro i hi
      show ((w.setCell ⟨c, o, none⟩ v).setCells c (o + 1) l).heap[i]? = _
      rw [r4 i hi]
      simp only [World.setCell, Array.getElem?_modify]
      rw [if_neg (Ne.symm hi)]

def InsShift (P : Program) (f : FuncId) (k : Nat) : Prop := ∀ (b off n c i vb voff m vc : Nat) (cs vs : List Value) (w : World), i < n → 0 < m → n + m ≤ c → c ≤ 9223372036854775807 → vb ≠ b →
    cs.length = n * k → vs.length = m * k →
    (∀ j v, cs[j]? = some v → w.cell? ⟨b, off + j, none⟩ = some v) → (∀ j, j < (n + m) * k → (w.cell? ⟨b, off + j, none⟩).isSome = true) → (∀ j, j < (n + m) * k → w.frozen? ⟨b, off + j, none⟩ = false) →
    (∀ j v, vs[j]? = some v → w.cell? ⟨vb, voff + j, none⟩ = some v) → (∀ v ∈ cs, v.oneCell' = true) → (∀ v ∈ vs, v.oneCell' = true) →
    ∀ (tA tB : TypeId) (kA kB : Nat), w.shape? vb = some (tA, kA) → w.shape? b = some (tB, kB) → kB ≠ 0 → w.frozen? ⟨vb, voff, none⟩ = false → w.frozen? ⟨vb, kA, none⟩ = false →
    Calls P f #[.slice (some ⟨b, off, none⟩) n c, .int .i64 i, .slice (some ⟨vb, voff, none⟩) m vc] w fun e w' =>
      e = .returned (.slice (some ⟨b, off, none⟩) (n + m) c) ∧ w' = (w.drew.setCells b (off + (i + m) * k) (cs.drop (i * k))).setCells b (off + i * k) vs
def InsGrow (P : Program) (f : FuncId) (k B : Nat) (E : TypeId) : Prop := ∀ (b off n c i vb voff m vc : Nat) (cs vs : List Value) (w : World), i < n → 0 < m → n ≤ c → c < n + m → (2 * (n + m) + 192) * B ≤ 281474976710656 →
    cs.length = n * k → vs.length = m * k →
    (∀ j v, cs[j]? = some v → w.cell? ⟨b, off + j, none⟩ = some v) →
    (∀ j v, vs[j]? = some v → w.cell? ⟨vb, voff + j, none⟩ = some v) → (∀ v ∈ cs, v.oneCell' = true) → (∀ v ∈ vs, v.oneCell' = true) →
    Calls P f #[.slice (some ⟨b, off, none⟩) n c, .int .i64 i, .slice (some ⟨vb, voff, none⟩) m vc] w fun e w' =>
      ∃ (G : Nat) (ROW : Array Value), n + m ≤ G ∧ ROW.size = G * k ∧ ROW.toList.take (i * k) = cs.take (i * k) ∧ e = .returned (.slice (some ⟨w.heap.size, 0, none⟩) (n + m) G) ∧ G ≤ 9223372036854775807 ∧
        w' = (((w.alloc (.cells ROW E)).drew.setCells w.heap.size (i * k) vs).drew).setCells w.heap.size ((i + m) * k) (cs.drop (i * k))

theorem splice_at (A B D : List Value) (y : Nat) : splice (A ++ B) (A.length + y) D = A ++ splice B y D := by
  unfold splice
  rw [List.take_append, List.take_of_length_le (by omega), List.append_assoc]
  congr 1
  rw [show A.length + y - A.length = y by omega]
  congr 2
  rw [show A.length + y + D.length = A.length + (y + D.length) by omega, List.drop_append]
  rw [List.drop_eq_nil_of_le (by omega), List.nil_append, show A.length + (y + D.length) - A.length = y + D.length by omega]
/-- First what stands behind goes up, then the new ones come in. -/
theorem splice_up (A D V : List Value) (x y : Nat) (hxy : x + V.length = y) (hy : y + D.length ≤ A.length) : (splice (splice A y D) x V).take (x + V.length + D.length) = A.take x ++ (V ++ D) := by
  unfold splice
  have h1 : (A.take y ++ (D ++ A.drop (y + D.length))).take x = A.take x := by
    rw [List.take_append_of_le_length (by rw [List.length_take]; omega), List.take_take, Nat.min_eq_left (by omega)]
  have h2 : (A.take y ++ (D ++ A.drop (y + D.length))).drop (x + V.length) = D ++ A.drop (y + D.length) := by
    rw [hxy, List.drop_append, List.drop_eq_nil_of_le (by rw [List.length_take]; omega), List.nil_append, List.length_take, Nat.min_eq_left (by omega), Nat.sub_self, List.drop_zero]
  rw [h1, h2, ← List.append_assoc, ← List.append_assoc, ← List.append_assoc, List.take_append_of_le_length (by simp; omega), List.take_of_length_le (by simp; omega), List.append_assoc]
theorem splice_up2 (A D V : List Value) (x y : Nat) (hxy : x + V.length = y) (hy : y + D.length ≤ A.length) : (splice (splice A x V) y D).take (x + V.length + D.length) = A.take x ++ (V ++ D) := by
  unfold splice
  have h1 : (A.take x ++ (V ++ A.drop (x + V.length))).take y = A.take x ++ V := by
    rw [← List.append_assoc, List.take_append_of_le_length (by simp; omega), List.take_of_length_le (by simp; omega)]
  rw [h1, ← List.append_assoc, List.take_append_of_le_length (by simp; omega), List.take_of_length_le (by simp; omega), List.append_assoc]

section
variable {P : Program} {laid : List (Nat × List Value)}
theorem cell_of_raw {W : World} {c : Nat} {arr : Array Value} {t : TypeId} {fz : Nat × Nat} (hob : W.heap[c]? = some (.cells arr t fz)) {d n j : Nat} {v : Value} (h : ((arr.toList.drop d).take n)[j]? = some v) : W.cell? ⟨c, d + j, none⟩ = some v := by
  rw [List.getElem?_take] at h
  split at h
  · rw [List.getElem?_drop] at h
    simp only [World.cell?, hob]
    simpa using h
  · cases h
theorem rel_oneCell {μ : Inj} {l l' : List Value} (h : LRel μ l l') (hok : l.all okCell = true) : ∀ v ∈ l', v.oneCell' = true := by
  intro q hq
  obtain ⟨k, hk, rfl⟩ := List.getElem_of_mem hq
  have hl := h.length
  have hk2 : k < l.length := by omega
  exact okCell_rel (h.idx k hk2 hk) (List.all_eq_true.1 hok _ (List.getElem_mem hk2))

theorem iok_insert {f : FuncId} {k B : Nat} {E : TypeId} (hent : ∃ n c, entry P f = some (n, c)) (hk0 : 0 < k) (hk1 : k ≠ 1) (hS : InsShift P f k) (hG : InsGrow P f k B E) : IOk P laid f (iinsert k B) := by
  refine ⟨hent, ?_⟩
  intro base W0 μ H W args args' v H' hW h hl ha hF
  unfold iinsert at hF
  split at hF
  · rename_i b off len cap i vb voff m vcap
    cases hc0 : (Nat.ble capU cap && Nat.blt i len && !(Nat.beq vb b) && !(Nat.beq m 0) && isOwn (H.get vb))
    · simp only [hc0, cond_false] at hF; cases hF
    simp only [hc0, cond_true] at hF
    simp only [Bool.and_eq_true, Bool.not_eq_true'] at hc0
    obtain ⟨⟨⟨⟨g1, g2⟩, g3⟩, g4⟩, g5⟩ := hc0
    have g1 := Nat.le_of_ble_eq_true g1
    have g2 : i < len := Nat.le_of_ble_eq_true g2
    have g3 : vb ≠ b := by rintro rfl; rw [Nat.beq_refl] at g3; cases g3
    have g4 : m ≠ 0 := by rintro rfl; cases g4
    -- the arguments
    generalize hq : args'.toList = q at ha
    cases ha with
    | cons h1 ha => cases ha with
      | cons h2 ha => cases ha with
        | cons h3 ha =>
          cases ha
          cases h2
          cases h1 with
          | slice _ _ _ _ cap' o' T hm hcr ho =>
            cases h3 with
            | slice _ _ _ _ vcap' vo' T2 hm2 hcr2 ho2 =>
              have hargs : args' = #[.slice (some ⟨T.c, o', none⟩) len cap', .int .i64 (Int.ofNat i), .slice (some ⟨T2.c, vo', none⟩) m vcap'] := by rw [← Array.toList_inj, hq]
              subst hargs
              have hcr' : cap - capU ≤ cap' ∧ len ≤ cap' ∧ off + cap' * T.e ≤ T.r ∧ (T.e = 1 ∨ cap' ≤ 9223372036854775807) := by
                rcases hcr with ⟨c1, c2⟩ | ⟨c1, c2, c3, c4, c5⟩
                · omega
                · exact ⟨c2, c3, c4, c5⟩
              obtain ⟨c2, c3, c4, c5⟩ := hcr'
              have hoo : o' = T.d + off := by
                rcases ho with ho | ⟨e1, _⟩
                · exact ho
                · omega
              subst hoo
              have hoo2 : vo' = T2.d + voff := by
                rcases ho2 with ho | ⟨e1, _⟩
                · exact ho
                · omega
              subst hoo2
              -- what is inserted
              split at hF
              · rename_i n new hsrc
                have hmk : m * k ≠ 0 := Nat.mul_ne_zero g4 (by omega)
                unfold isrc at hsrc
                simp only at hsrc
                cases hz : Nat.beq (m * k) 0
                · simp only [hz, cond_false] at hsrc
                  split at hsrc
                  · rename_i vcs ve vro hgetv
                    cases hll : Nat.beq ((vcs.drop voff).take (m * k)).length (m * k)
                    · simp only [hll, cond_false] at hsrc; cases hsrc
                    simp only [hll, cond_true, Option.some.injEq, Prod.mk.injEq] at hsrc
                    obtain ⟨rfl, rfl⟩ := hsrc
                    have hvlen := Nat.eq_of_beq_eq_true hll
                    have hvro : vro = false ∧ ve ≠ 1 := by
                      rw [hgetv] at g5
                      unfold isOwn at g5
                      cases vro
                      · refine ⟨rfl, ?_⟩
                        rintro rfl
                        simp at g5
                      · simp at g5
                    obtain ⟨rfl, hve⟩ := hvro
                    unfold imid at hF
                    split at hF
                    · rename_i cs e hget
                      simp only at hF
                      cases hbb : (Nat.beq ((cs.drop off).take (len * k)).length (len * k) && Nat.beq e k && ((cs.drop off).take (len * k)).all okCell && ((vcs.drop voff).take (m * k)).all okCell && Nat.ble ((2 * (len + m) + 192) * B) 281474976710656 && Nat.ble (len + m) 4611686018427387904)
                      · simp only [hbb, cond_false] at hF; cases hF
                      simp only [hbb, cond_true, Option.some.injEq, Prod.mk.injEq] at hF
                      obtain ⟨rfl, rfl⟩ := hF
                      simp only [Bool.and_eq_true] at hbb
                      obtain ⟨⟨⟨⟨⟨b1, b2⟩, b3⟩, b4⟩, b5⟩, b6⟩ := hbb
                      have b1 := Nat.eq_of_beq_eq_true b1
                      have b2 := Nat.eq_of_beq_eq_true b2
                      have b5 := Nat.le_of_ble_eq_true b5
                      have b6 := Nat.le_of_ble_eq_true b6
                      subst b2
                      obtain ⟨ob, hob, hor⟩ := h.obj b _ hget T hm
                      obtain ⟨ov, hov, horv⟩ := h.obj vb _ hgetv T2 hm2
                      cases hor with
                      | cells _ _ _ arr t lo hi2 hTe hcl hsz hfz =>
                        cases horv with
                        | cells _ _ _ varr vt vlo vhi hTe2 hclv hszv hfzv =>
                          have hTc : T2.c ≠ T.c := fun e1 => g3 (h.inj vb b _ _ hgetv hget T2 T hm2 hm e1)
                          rw [← hTe] at c4 c5
                          have hold : LRel μ ((cs.drop off).take (len * e)) ((arr.toList.drop (T.d + off)).take (len * e)) := by
                            have := (hcl.drop off).take (len * e)
                            rw [List.drop_take, List.drop_drop, List.take_take, Nat.min_eq_left (by rw [List.length_take, List.length_drop] at b1; omega)] at this
                            exact this
                          have hnew : LRel μ ((vcs.drop voff).take (m * e)) ((varr.toList.drop (T2.d + voff)).take (m * e)) := by
                            have := (hclv.drop voff).take (m * e)
                            rw [List.drop_take, List.drop_drop, List.take_take, Nat.min_eq_left (by rw [List.length_take, List.length_drop] at hvlen; omega)] at this
                            exact this
                          have hlo := hold.length
                          have hln := hnew.length
                          generalize hO : (cs.drop off).take (len * e) = O at hold hlo b1 b3 ⊢
                          generalize hV : (vcs.drop voff).take (m * e) = V at hnew hln hvlen b4 ⊢
                          generalize hO' : (arr.toList.drop (T.d + off)).take (len * e) = O' at hold hlo
                          generalize hV' : (varr.toList.drop (T2.d + voff)).take (m * e) = V' at hnew hln
                          have hcsC : ∀ j v, O'[j]? = some v → W.cell? ⟨T.c, T.d + off + j, none⟩ = some v := fun j v hj => cell_of_raw hob (by rw [hO']; exact hj)
                          have hvsC : ∀ j v, V'[j]? = some v → W.cell? ⟨T2.c, T2.d + voff + j, none⟩ = some v := fun j v hj => cell_of_raw hov (by rw [hV']; exact hj)
                          have h1O := rel_oneCell hold b3
                          have h1V := rel_oneCell hnew b4
                          have hie : i * e ≤ len * e := Nat.mul_le_mul_right _ (by omega)
                          have hmul : (i + m) * e = i * e + m * e := Nat.add_mul _ _ _
                          have hmul2 : (len + m) * e = len * e + m * e := Nat.add_mul _ _ _
                          obtain ⟨hdel, hdelE⟩ := h.del hm
                          have hrel : LRel μ (O.take (i * e) ++ (V ++ O.drop (i * e))) (O'.take (i * e) ++ (V' ++ O'.drop (i * e))) := (hold.take _).append (hnew.append (hold.drop _))
                          have hrl : (O.take (i * e) ++ (V ++ O.drop (i * e))).length = len * e + m * e := by
                            simp only [List.length_append, List.length_take, List.length_drop]; omega
                          have hdl : (O'.drop (i * e)).length = len * e - i * e := by rw [List.length_drop]; omega
                          have hvsz : T2.d + voff + m * e ≤ varr.size := by
                            have := hclv.length
                            have hx : ((varr.toList.drop (T2.d + voff)).take (m * e)).length = m * e := by rw [hV']; omega
                            rw [List.length_take, List.length_drop, Array.length_toList] at hx
                            omega
                          by_cases hfit : len + m ≤ cap'
                          · have hce : (len + m) * e ≤ cap' * e := Nat.mul_le_mul_right _ hfit
                            refine Calls.mono (hS T.c (T.d + off) len cap' i T2.c (T2.d + voff) m vcap' O' V' W g2 (by omega) hfit (by omega) hTc (by omega) (by omega) hcsC ?_ ?_ hvsC h1O h1V vt t varr.size arr.size ?_ ?_ ?_ ?_ ?_) ?_
                            · intro j hj
                              simp only [World.cell?, hob]
                              rw [Array.getElem?_eq_getElem (by omega)]; rfl
                            · intro j hj
                              have := hfz rfl (T.d + off + j) (.inl (by omega))
                              simp only [World.frozen?, hob, Bool.and_eq_false_iff, decide_eq_false_iff_not]
                              omega
                            · simp only [World.shape?, hov]
                            · simp only [World.shape?, hob]
                            · have : 0 < (len + m) * e := Nat.mul_pos (by omega) hk0
                              omega
                            · have := hfzv rfl (T2.d + voff) (.inl (by have : 0 < m * e := Nat.pos_of_ne_zero hmk; omega))
                              simp only [World.frozen?, hov, Bool.and_eq_false_iff, decide_eq_false_iff_not]
                              omega
                            · have := hfzv rfl varr.size (.inr ⟨rfl, hve⟩)
                              simp only [World.frozen?, hov, Bool.and_eq_false_iff, decide_eq_false_iff_not]
                              omega
                            · rintro ex W' ⟨rfl, rfl⟩
                              obtain ⟨a1, r1, r2, r2b, r3, r4, r5, r6⟩ := setCells_raw T.c t (lo, hi2) (O'.drop (i * e)) (T.d + off + (i + m) * e) arr W.drew hob (by omega)
                              obtain ⟨a2, s1, s2, s2b, s3, s4, s5, s6⟩ := setCells_raw T.c t (lo, hi2) V' (T.d + off + i * e) a1 _ r1 (by omega)
                              obtain ⟨φ, q⟩ := h.abs
                              have hmap := hdel.map_new (T := ⟨T.c, T.d + off, T.r - off, e⟩) (o := .cells (O.take (i * e) ++ (V ++ O.drop (i * e))) e false) (W' := (W.drew.setCells T.c (T.d + off + (i + m) * e) (O'.drop (i * e))).setCells T.c (T.d + off + i * e) V')
                                (by rw [s3, r3]; exact Nat.le_refl _) (fun j _ hj => by rw [s4 j hj, r4 j hj]; rfl)
                                (fun b' p T' hb' hm' => by
                                  intro e1
                                  obtain ⟨e2, hb2⟩ := IHeap.get_of_del hb'
                                  exact e2 (h.inj b' b _ _ hb2 hget T' T hm' hm e1))
                                ⟨φ, ⟨fun b' a ro T' h1 h2 => q.rep b' a ro T' (IHeap.get_of_del h1).2 h2, fun b' a ro T' h1 h2 b2 o2 T2 h3 h4 h5 => q.far b' a ro T' (IHeap.get_of_del h1).2 h2 b2 o2 T2 (IHeap.get_of_del h3).2 h4 h5⟩,
                                  fun b' a ro h1 ⟨T', h2⟩ => (q.far b' a ro T' (IHeap.get_of_del h1).2 h2 b _ T hget hm (Ne.symm (IHeap.get_of_del h1).1)).1⟩
                                s1 (h.own b _ hget rfl T hm) ?_ (by rw [s5, r5]; rfl) (by rw [s6, r6]; rfl)
                              · exact ⟨_, _, rfl, hmap.1, .slice H.next 0 _ _ _ _ ⟨T.c, T.d + off, T.r - off, e⟩ (Inj.ext_same _ _ _) (.inr ⟨by omega, by omega, hfit, by show 0 + cap' * e ≤ T.r - off; omega, by show e = 1 ∨ _; omega⟩) (.inl rfl), hdelE.trans hmap.2⟩
                              · refine .cells ⟨T.c, T.d + off, T.r - off, e⟩ _ _ false _ t lo hi2 rfl ?_ ?_ ?_
                                · show LRel μ _ (List.take _ (List.drop (T.d + off) a2.toList))
                                  have hA : arr.toList = arr.toList.take (T.d + off) ++ arr.toList.drop (T.d + off) := (List.take_append_drop _ _).symm
                                  have hAl : (arr.toList.take (T.d + off)).length = T.d + off := by rw [List.length_take, Array.length_toList]; omega
                                  generalize hA0 : arr.toList.take (T.d + off) = A0 at hA hAl
                                  generalize hA1 : arr.toList.drop (T.d + off) = A1 at hA hO'
                                  have hA1l : (len + m) * e ≤ A1.length := by rw [← hA1, List.length_drop, Array.length_toList]; omega
                                  have hs2 : a2.toList = A0 ++ splice (splice A1 ((i + m) * e) (O'.drop (i * e))) (i * e) V' := by
                                    rw [s2, r2, hA]
                                    rw [show T.d + off + (i + m) * e = A0.length + (i + m) * e by omega, splice_at]
                                    rw [show T.d + off + i * e = A0.length + i * e by omega, splice_at]
                                  rw [hs2, hrl, List.drop_left' hAl]
                                  have hup := splice_up A1 (O'.drop (i * e)) V' (i * e) ((i + m) * e) (by omega) (by omega)
                                  rw [show i * e + V'.length + (O'.drop (i * e)).length = len * e + m * e by omega] at hup
                                  rw [hup, show A1.take (i * e) = O'.take (i * e) by rw [← hO', List.take_take, Nat.min_eq_left hie]]
                                  exact hrel
                                · show a2.size = T.d + off + (T.r - off)
                                  omega
                                · intro _ j hj
                                  refine hfz rfl j ?_
                                  have : a2.size = arr.size := by omega
                                  rw [← this]; exact hj
                          · refine Calls.mono (hG T.c (T.d + off) len cap' i T2.c (T2.d + voff) m vcap' O' V' W g2 (by omega) c3 (by omega) b5 (by omega) (by omega) hcsC hvsC h1O h1V) ?_
                            rintro ex W' ⟨G, ROW, z1, z2, z3, rfl, z4, rfl⟩
                            have hGe : (len + m) * e ≤ G * e := Nat.mul_le_mul_right _ z1
                            have hal : (W.alloc (.cells ROW E)).drew.heap[W.heap.size]? = some (.cells ROW E (0, 0)) := by
                              show (W.heap.push _)[W.heap.size]? = _
                              simp
                            obtain ⟨a1, r1, r2, r2b, r3, r4, r5, r6⟩ := setCells_raw W.heap.size E (0, 0) V' (i * e) ROW (W.alloc (.cells ROW E)).drew hal (by omega)
                            obtain ⟨a2, s1, s2, s2b, s3, s4, s5, s6⟩ := setCells_raw W.heap.size E (0, 0) (O'.drop (i * e)) ((i + m) * e) a1 (((W.alloc (.cells ROW E)).drew.setCells W.heap.size (i * e) V').drew) r1 (by omega)
                            have hpush : (W.alloc (.cells ROW E)).drew.heap.size = W.heap.size + 1 := by
                              show (W.heap.push _).size = _
                              simp
                            obtain ⟨φ, q⟩ := hdel.abs
                            have hmap := hdel.map_new (T := ⟨W.heap.size, 0, G * e, e⟩) (o := .cells (O.take (i * e) ++ (V ++ O.drop (i * e))) e false) (W' := (((W.alloc (.cells ROW E)).drew.setCells W.heap.size (i * e) V').drew).setCells W.heap.size ((i + m) * e) (O'.drop (i * e)))
                              (by
                                rw [s3]
                                show W.heap.size ≤ ((W.alloc (.cells ROW E)).drew.setCells W.heap.size (i * e) V').heap.size
                                rw [r3, hpush]; omega)
                              (fun j hjl hj => by
                                rw [s4 j hj]
                                show ((W.alloc (.cells ROW E)).drew.setCells W.heap.size (i * e) V').heap[j]? = _
                                rw [r4 j hj]
                                show (W.heap.push _)[j]? = _
                                rw [Array.getElem?_push, if_neg (by omega)])
                              (fun b' p T' hb' hm' => by have := hdel.bound b' T' hm'; show T'.c ≠ W.heap.size; omega)
                              ⟨φ, q, fun b' a ro hb' ⟨T', hm'⟩ hc => by
                                have := (base.bnd _ _ _ _ (q.rep b' a ro T' hb' hm').1).2 _ hc
                                exact absurd this (Nat.lt_irrefl _)⟩
                              s1 (fun hk => absurd (hdel.size _ hk) (Nat.lt_irrefl _)) ?_ (by rw [s5]; show ((W.alloc (.cells ROW E)).drew.setCells W.heap.size (i * e) V').output = _; rw [r5]; rfl) (by rw [s6]; show ((W.alloc (.cells ROW E)).drew.setCells W.heap.size (i * e) V').os = _; rw [r6]; rfl)
                            · exact ⟨_, _, rfl, hmap.1, .slice H.next 0 _ _ _ _ ⟨W.heap.size, 0, G * e, e⟩ (Inj.ext_same _ _ _) (.inr ⟨by omega, by omega, z1, by show 0 + G * e ≤ G * e; omega, .inr z4⟩) (.inl rfl), hdelE.trans hmap.2⟩
                            · refine .cells ⟨W.heap.size, 0, G * e, e⟩ _ _ false _ E 0 0 rfl ?_ ?_ (fun _ j _ => by omega)
                              · show LRel μ _ (List.take _ (List.drop 0 a2.toList))
                                rw [List.drop_zero, s2, r2, hrl]
                                have hup := splice_up2 ROW.toList (O'.drop (i * e)) V' (i * e) ((i + m) * e) (by omega) (by have e5 : ROW.toList.length = ROW.size := Array.length_toList; rw [e5]; omega)
                                rw [show i * e + V'.length + (O'.drop (i * e)).length = len * e + m * e by omega] at hup
                                rw [hup, z3]
                                exact hrel
                              · show a2.size = 0 + G * e
                                omega
                    · cases hF
                  · cases hsrc
                · exact absurd (Nat.eq_of_beq_eq_true hz) hmk
              · cases hF
  · cases hF
end
end Go.Ideal
