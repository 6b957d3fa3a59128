/-
  Part of the proof: the machine that runs a program by fixed orders, and that each of its runs is a run of the model; or a run of it in parts. No conditions.
-/
import Derived.Test.YtfgamdmnljnonaaGreatDoorC41s1
set_option maxRecDepth 1000000
namespace Go.Ideal
open Go.Proofs
theorem pItoa_ok' {X : Ctx} {f : FuncId} (hX : X.intr f = some itoaI) (args : List Value) (H : IHeap) (K : Value → IHeap → Prop) (h : pItoa args H K) : ∃ v H', intrAt X f args .normal H = some (v, H') ∧ K v H' := pItoa_ok hX h
theorem pfNm_ok : PfOk XNm pfNm := pf_cons (fun _ _ _ h => pAtoi_ok (X := XNm) rfl h) (pf_cons (pItoa_ok' rfl) (noPf_ok _))
theorem decB_len {k : Int} (h : k ≤ 1000000) : (decB k).size ≤ 8 := decB_size 7 k (by omega)
theorem num_ends (s : ByteArray) (m : Int) (h : numIn s m) : EndsN XNm 20 f_fault_number (fun v' _ => v' = .int .i64 (numOf s)) (st f_fault_number 27 [.string s, .int .i64 m] hp0) := by
  obtain ⟨k, h0, h1, h2, rfl⟩ := h
  obtain ⟨e1, e2⟩ := numOf_dec h0 (by omega)
  have hl := decB_len (k := k) (by omega)
  refine (VCp_ok pfNm_ok (ids := []) (Q := fun v' _ => v' = .int .i64 (numOf (decB k))) 1000 _ ?_).toN
  rw [vc_num, e1]
  refine ⟨⟨e2, by omega⟩, bif_decide (fun _ => bif_decide (fun _ => ⟨⟨h0, by omega⟩, bif_true (by simp) rfl⟩) fun h => absurd h1 h) fun h => absurd h0 h⟩
theorem iok_num (h372 : IOk Tryz.prog tabLaid f_strconv_Atoi atoiI) (h32 : IOk Tryz.prog tabLaid f_strconv_Itoa itoaI) : IOk Tryz.prog tabLaid f_fault_number qNum.F := by
  refine iok_plain (fs := nmFs) (AllOk.cons h372 (AllOk.cons h32 (AllOk.nil _ _))) (n := 27) (by kernel_rfl) fun args h => ?_
  unfold qNum at h
  simp only at h
  split at h
  · rename_i s m
    exact ⟨rfl, by simp, rfl, num_ends s m h⟩
  · exact h.elim
theorem pNum_ok {X : Ctx} {f : FuncId} (hX : X.intr f = some qNum.F) (args : List Value) (H : IHeap) (K : Value → IHeap → Prop) (h : pNum args H K) : ∃ v H', intrAt X f args .normal H = some (v, H') ∧ K v H' := by
  unfold pNum at h
  split at h
  · rename_i s m
    refine PlainF.p_ok (q := qNum) hX _ H K ⟨h.1, h.2⟩
  · exact h.elim
theorem pIndexB_ok {X : Ctx} {f : FuncId} (hX : X.intr f = some indexI) (args : List Value) (H : IHeap) (K : Value → IHeap → Prop) (h : pIndexB args H K) : ∃ v H', intrAt X f args .normal H = some (v, H') ∧ K v H' := by
  unfold pIndexB at h
  split at h
  · rename_i s sep
    split at h
    · rename_i c hc
      have hge := Go.Lib.indexByte_ge s.data.toList c
      refine ⟨.int .i64 (Go.Lib.indexByte s.data.toList c), H, ?_, ?_⟩
      · unfold intrAt
        simp only [hX]
        unfold indexI indexV
        simp only [hc]
      · cases hb : hasB s c
        · rw [hb] at h
          have : Go.Lib.indexByte s.data.toList c = .negSucc 0 := by
            unfold hasB at hb
            have := of_decide_eq_false hb
            show _ = (-1 : Int)
            omega
          rw [this]; exact h
        · rw [hb] at h
          have : Go.Lib.indexByte s.data.toList c = .ofNat (posB1 s c) := by
            unfold hasB at hb
            have := of_decide_eq_true hb
            unfold posB1
            show _ = (((Go.Lib.indexByte s.data.toList c).toNat : Nat) : Int)
            omega
          rw [this]; exact h
    · exact h.elim
  · exact h.elim
theorem pfRd_ok : PfOk XRd pfRd := pf_cons (fun _ _ _ h => pSplit_ok (X := XRd) rfl h) (pf_cons (pNum_ok rfl) (pf_cons (pIndexB_ok rfl) (noPf_ok _)))
theorem hasB_join1 (k : Int) : hasB (bs (joinC [k])) 44 = false := by
  unfold hasB
  rw [bs_data, joinC, idx_none 44 _ (dec_not (by decide))]
  rfl
theorem join_cons (k l : Int) (r : List Int) : joinC (k :: l :: r) = Go.Lib.decDigits k.toNat ++ 44 :: joinC (l :: r) := rfl
theorem hasB_join2 (k l : Int) (r : List Int) : hasB (bs (joinC (k :: l :: r))) 44 = true ∧ posB1 (bs (joinC (k :: l :: r))) 44 = (decB k).size := by
  have e : Go.Lib.indexByte (bs (joinC (k :: l :: r))).data.toList 44 = ((decB k).size : Int) := by
    rw [bs_data, join_cons, idx_at 44 _ _ (dec_not (by decide))]
    rfl
  unfold hasB posB1
  rw [e]
  exact ⟨decide_eq_true (by omega), by simp⟩
theorem join_first (k l : Int) (r : List Int) : ByteArray.extract (bs (joinC (k :: l :: r))) 0 (decB k).size = decB k := bs_first (Go.Lib.decDigits k.toNat) _ 44
theorem join_rest (k l : Int) (r : List Int) : ByteArray.extract (bs (joinC (k :: l :: r))) ((decB k).size + 1) (bs (joinC (k :: l :: r))).size = bs (joinC (l :: r)) := bs_rest (Go.Lib.decDigits k.toNat) _ 44
theorem join_size (k l : Int) (r : List Int) : (bs (joinC (k :: l :: r))).size = (decB k).size + 1 + (bs (joinC (l :: r))).size := by
  rw [bs_size, bs_size, join_cons, List.length_append, List.length_cons]
  show _ = (Go.Lib.decDigits k.toNat).length + 1 + _
  omega
end Go.Ideal
