/-
  Part of the proof: the machine that runs a program by fixed orders, and that each of its runs is a run of the model; or a run of it in parts. No conditions.
-/
import Derived.Test.YtfgamdmnljnonaaGreatDoorC41s5
import Derived.Test.YtfgamdmnljnonaaGreatDoorP41b
set_option maxRecDepth 1000000
namespace Go.Ideal
open Go.Proofs
theorem pKey_ok {X : Ctx} {f : FuncId} (hX : X.intr f = some qKey.F) (args : List Value) (H : IHeap) (K : Value → IHeap → Prop) (h : pKey args H K) : ∃ v H', intrAt X f args .normal H = some (v, H') ∧ K v H' := by
  unfold pKey at h
  split at h
  · rename_i s
    exact PlainF.p_ok (q := qKey) hX _ H K ⟨h.1, h.2⟩
  · exact h.elim
theorem pTxt2_ok {X : Ctx} {f : FuncId} (hX : X.intr f = some fTxt2) (args : List Value) (H : IHeap) (K : Value → IHeap → Prop) (h : pTxt2 args H K) : ∃ v H', intrAt X f args .normal H = some (v, H') ∧ K v H' := by
  unfold pTxt2 at h
  split at h
  · rename_i s
    refine ⟨_, _, ?_, h.2⟩
    unfold intrAt
    simp only [hX]
    unfold fTxt2
    exact if_pos h.1
  · exact h.elim
theorem iok_txt2 : IOk Tryz.prog tabLaid f_value_Text fTxt2 := IOk.sub iok_txt fun args H r h => by
  unfold fTxt2 at h
  split at h
  · rename_i s
    split at h
    · rename_i hs
      cases h
      have : verr s = 0 := by unfold verr; rw [if_neg (by omega)]
      show some (Value.tuple ⟨[.string (vstr s), .int .i64 (verr s)]⟩, H) = _
      rw [this]
    · cases h
  · cases h
theorem pfCk_ok : PfOk XCk pfCk := pf_cons (pKey_ok rfl) (pf_cons (pTxt2_ok rfl) (pf_cons (pItoa_ok' rfl) (pf_cons (fun _ _ _ h => footPf_ok (X := XCk) rfl h) (noPf_ok _))))
theorem szl {n : Nat} (h : n ≤ 9223372036854775807) : Nat.ble n 9223372036854775807 = true := Nat.ble_eq_true_of_le h
theorem hlit (l : List UInt8) : ByteArray.size (ByteArray.mk l.toArray) = l.length := rfl
theorem bif_not {b : Bool} {A B : Prop} (h : b = true) (h1 : B) : (bif !b then A else B) := by rw [h]; exact h1
theorem let_size {s : ByteArray} (h : isLet s) : s.size = 1 := by
  obtain ⟨j, _, _, rfl⟩ := h
  rfl
abbrev CkQ : Value → List (Option IObj) → Prop := fun v _ => v = .int .i64 0
theorem ck_of {k a b : Int} {key val : ByteArray} (h : VCp XCk pfCk f_op_Check [] CkQ 2000 (st f_op_Check 11 [opV k a b key val] hp0)) : EndsN XCk 20 f_op_Check (fun v _ => v = .int .i64 0) (st f_op_Check 11 [opV k a b key val] hp0) :=
  (VCp_ok pfCk_ok (ids := []) (Q := CkQ) 2000 _ h).toN
theorem ck_put {key val : ByteArray} (hk : isLet key) (hv : val.size ≤ 512) : VCp XCk pfCk f_op_Check [] CkQ 2000 (st f_op_Check 11 [opV 1 0 0 key val] hp0) := by
  have h1 := let_size hk
  have h2 := vstr_size val
  rw [vc_ck1]
  repeat first | exact rfl | refine ⟨rfl, ?_⟩ | refine ⟨hk, ?_⟩ | refine ⟨hv, ?_⟩ | refine bif_true (szl (by simp only [ByteArray.size_append, hlit, List.length_cons, List.length_nil]; omega)) ?_ | refine bif_not (by simp) ?_
theorem ck_get {key : ByteArray} (hk : isLet key) : VCp XCk pfCk f_op_Check [] CkQ 2000 (st f_op_Check 11 [opV 2 0 0 key ByteArray.empty] hp0) := by
  have h1 := let_size hk
  rw [vc_ck2]
  repeat first | exact rfl | refine ⟨rfl, ?_⟩ | refine ⟨hk, ?_⟩ | refine bif_true (szl (by simp only [ByteArray.size_append, hlit, List.length_cons, List.length_nil]; omega)) ?_ | refine bif_not (by simp) ?_
theorem ck_del {key : ByteArray} (hk : isLet key) : VCp XCk pfCk f_op_Check [] CkQ 2000 (st f_op_Check 11 [opV 3 0 0 key ByteArray.empty] hp0) := by
  have h1 := let_size hk
  rw [vc_ck3]
  repeat first | exact rfl | refine ⟨rfl, ?_⟩ | refine ⟨hk, ?_⟩ | refine bif_true (szl (by simp only [ByteArray.size_append, hlit, List.length_cons, List.length_nil]; omega)) ?_ | refine bif_not (by simp) ?_
theorem ck_plain {k : Int} (hk : k = 4 ∨ k = 5 ∨ k = 8) : VCp XCk pfCk f_op_Check [] CkQ 2000 (st f_op_Check 11 [opV k 0 0 ByteArray.empty ByteArray.empty] hp0) := by
  rcases hk with rfl | rfl | rfl
  · rw [vc_ck4]; exact ⟨rfl, rfl, rfl, rfl⟩
  · rw [vc_ck5]; exact ⟨rfl, rfl, rfl, rfl⟩
  · rw [vc_ck8]; exact ⟨rfl, rfl, rfl, rfl⟩
theorem ck_policy {a : Int} (ha : a = 1 ∨ a = 2) : VCp XCk pfCk f_op_Check [] CkQ 2000 (st f_op_Check 11 [opV 6 a 0 ByteArray.empty ByteArray.empty] hp0) := by
  rcases ha with rfl | rfl
  · rw [vc_ck61]
    repeat first | exact rfl | refine ⟨rfl, ?_⟩
  · rw [vc_ck62]
    repeat first | exact rfl | refine ⟨rfl, ?_⟩
theorem plan_text (a : Int) (y : UInt8) (ks : List Int) : decB a ++ { data := #[32] } ++ { data := #[y] } ++ { data := #[32] } ++ bs (joinC ks) = bs (Go.Lib.decDigits a.toNat ++ 32 :: ([y] ++ 32 :: joinC ks)) := by
  apply bs_ext
  rw [ByteArray.data_append, ByteArray.data_append, ByteArray.data_append, ByteArray.data_append, Array.toList_append, Array.toList_append, Array.toList_append, Array.toList_append]
  simp [bs, decB]
theorem ck_crash {a b : Int} {ks : List Int} (ha : 0 ≤ a ∧ a < 12) (hb : b = 0 ∨ b = 1) (hks : planKs 8192 ks) : VCp XCk pfCk f_op_Check [] CkQ 2000 (st f_op_Check 11 [opV 7 a b ByteArray.empty (bs (joinC ks))] hp0) := by
  have h1 : (decB a).size ≤ 8 := decB_len (by omega)
  have h2 : (bs (joinC ks)).size ≤ 27 := by
    have := joinC_len ks hks.2.2
    have := hks.2.1
    rw [bs_size]; omega
  have hn : planIn (decB a ++ { data := #[32] } ++ { data := #[110] } ++ { data := #[32] } ++ bs (joinC ks)) := ⟨(a, false, ks), ⟨⟨ha.1, by show a ≤ _; omega⟩, hks⟩, plan_text a 110 ks⟩
  have hy : planIn (decB a ++ { data := #[32] } ++ { data := #[121] } ++ { data := #[32] } ++ bs (joinC ks)) := ⟨(a, true, ks), ⟨⟨ha.1, by show a ≤ _; omega⟩, hks⟩, plan_text a 121 ks⟩
  have ha2 : 0 ≤ a ∧ a ≤ 9223372036854775807 := by omega
  rcases hb with rfl | rfl
  · rw [vc_ck70]
    repeat first | exact rfl | refine ⟨rfl, ?_⟩ | refine ⟨ha2, ?_⟩ | refine ⟨hn, ?_⟩ | refine bif_true (szl (by simp only [ByteArray.size_append, hlit, List.length_cons, List.length_nil]; omega)) ?_ | refine bif_not (by simp) ?_ | refine bif_both (fun _ => ?_) (fun _ => ?_)
  · rw [vc_ck71]
    repeat first | exact rfl | refine ⟨rfl, ?_⟩ | refine ⟨ha2, ?_⟩ | refine ⟨hy, ?_⟩ | refine bif_true (szl (by simp only [ByteArray.size_append, hlit, List.length_cons, List.length_nil]; omega)) ?_ | refine bif_not (by simp) ?_ | refine bif_both (fun _ => ?_) (fun _ => ?_)
theorem ck_ends {k a b : Int} {key val : ByteArray} (h : OpGood 8192 512 (k, a, b, key, val)) : EndsN XCk 20 f_op_Check (fun v _ => v = .int .i64 0) (st f_op_Check 11 [opV k a b key val] hp0) := by
  apply ck_of
  cases h with
  | put key val hk hv => exact ck_put hk (by omega)
  | del key hk => exact ck_del hk
  | get key hk => exact ck_get hk
  | plain k hk => exact ck_plain hk
  | policy a ha => exact ck_policy ha
  | crash a b ks ha hb hks => exact ck_crash ha hb hks
noncomputable def qChk : PlainF where
  ok := fun args => match args with
    | [.agg ⟨[.int .i64 k, .int .i64 a, .int .i64 b, .string key, .string val]⟩] => OpGood 8192 512 (k, a, b, key, val)
    | _ => False
  v := fun _ => .int .i64 0
theorem iok_chk (h38 : IOk Tryz.prog tabLaid f_key_Check qKey.F) (h32 : IOk Tryz.prog tabLaid f_strconv_Itoa itoaI) (h237 : IOk Tryz.prog tabLaid f_fault_read (footF tabLaid 20 [] readG)) : IOk Tryz.prog tabLaid f_op_Check qChk.F := by
  refine iok_plain (fs := ckFs) (AllOk.cons h38 (AllOk.cons iok_txt2 (AllOk.cons h32 (AllOk.cons h237 (AllOk.nil _ _))))) (n := 11) (by kernel_rfl) fun args h => ?_
  unfold qChk at h
  simp only at h
  split at h
  · exact ⟨rfl, by simp, rfl, ck_ends h⟩
  · exact h.elim
end Go.Ideal
