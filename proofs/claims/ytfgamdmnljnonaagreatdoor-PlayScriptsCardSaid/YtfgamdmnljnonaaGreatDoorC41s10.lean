/-
  Part of the proof: the machine that runs a program by fixed orders, and that each of its runs is a run of the model; or a run of it in parts. No conditions.
-/
import Derived.Test.YtfgamdmnljnonaaGreatDoorC41s9
set_option maxRecDepth 1000000
namespace Go.Ideal
open Go.Proofs
theorem iok_md (s z r w k v p : Int) : IOk Tryz.prog tabLaid f_drumlinlaw17_Made (qMd s z r w k v p).F := IOk.sub iok_made fun args H r h => by
  unfold PlainF.F at h ⊢
  split at h
  · rename_i hq
    cases h
    unfold qMd at hq
    simp only at hq
    split at hq
    · rename_i n0 n1 n2 n3 n4 n5 n6
      have h1 : qMade.ok [.agg ⟨[.int .u32 n0, .int .u32 n1, .int .u32 n2, .int .u32 n3, .int .u32 n4, .int .u32 n5, .int .u32 n6]⟩] := hq.1
      rw [if_pos h1]
      show some (cfgV _ _ _ _ _ _ _, H) = some (cfgV s z r w k v p, H)
      rw [hq.2]
    · exact hq.elim
  · cases h
theorem pMd_ok {X : Ctx} {f : FuncId} {s z r w k v p : Int} (hX : X.intr f = some (qMd s z r w k v p).F) (args : List Value) (H : IHeap) (K : Value → IHeap → Prop) (h : pMd s z r w k v p args H K) : ∃ v H', intrAt X f args .normal H = some (v, H') ∧ K v H' := by
  unfold pMd at h
  split at h
  · obtain ⟨⟨h0, h1, h2, h3, h4, h5, h6, h7⟩, h8⟩ := h
    exact PlainF.p_ok (q := qMd s z r w k v p) hX _ H K ⟨⟨⟨h0, h1, h2, h3, h4, h5, h6⟩, h7⟩, h8⟩
  · exact h.elim
theorem pChk_ok {X : Ctx} {f : FuncId} (hX : X.intr f = some qChk.F) (args : List Value) (H : IHeap) (K : Value → IHeap → Prop) (h : pChk args H K) : ∃ v H', intrAt X f args .normal H = some (v, H') ∧ K v H' := by
  unfold pChk at h
  split at h
  · exact PlainF.p_ok (q := qChk) hX _ H K ⟨h.1, h.2⟩
  · exact h.elim
theorem pFit_ok {X : Ctx} {f : FuncId} (hX : X.intr f = some qFit.F) (args : List Value) (H : IHeap) (K : Value → IHeap → Prop) (h : pFit args H K) : ∃ v H', intrAt X f args .normal H = some (v, H') ∧ K v H' := by
  unfold pFit at h
  split at h
  · exact PlainF.p_ok (q := qFit) hX _ H K ⟨h.1, h.2⟩
  · exact h.elim
theorem pVck_ok {X : Ctx} {f : FuncId} (hX : X.intr f = some qVck.F) (args : List Value) (H : IHeap) (K : Value → IHeap → Prop) (h : pVck args H K) : ∃ v H', intrAt X f args .normal H = some (v, H') ∧ K v H' := by
  unfold pVck at h
  split at h
  · exact PlainF.p_ok (q := qVck) hX _ H K ⟨h.1, h.2⟩
  · exact h.elim
theorem rnd_pf (s z r w k v p seed n : Int) (cr : Bool) (H : IHeap) (K : Value → IHeap → Prop) : footPf tabLaid 20 [] rndG [cfgV s z r w k v p, .int .u64 seed, .int .i64 n, .bool cr] H K =
    (seedIn seed ∧ (bif rnd1 s z r w k v p n then K (.tuple ⟨[.slice none 0 0, .int .i64 2]⟩) H else bif decide (n > 2000) then K (.tuple ⟨[.slice none 0 0, .int .i64 10]⟩) H else bif decide (n ≤ 0) then K (.tuple ⟨[.slice none 0 0, .int .i64 0]⟩) H
      else K (.tuple ⟨[.slice (some ⟨H.next, 0, some 0⟩) n.toNat capU, .int .i64 0]⟩) (H.alloc (.vec kOp (opsS z v cr (seed % 4294967296) n.toNat) false)))) := by kernel_rfl
theorem rnd1_no {s z r w k v p n : Int} (h : cfgOk s z r w k v p) (hn : 0 ≤ n) : rnd1 s z r w k v p n = false := by
  unfold rnd1 cfgErr
  rw [if_pos h, decide_eq_false (by omega)]
  rfl
theorem pRnd_ok {X : Ctx} {f : FuncId} (hX : X.intr f = some (footF tabLaid 20 [] rndG)) (args : List Value) (H : IHeap) (K : Value → IHeap → Prop) (h : pRnd args H K) : ∃ v H', intrAt X f args .normal H = some (v, H') ∧ K v H' := by
  unfold pRnd at h
  split at h
  · rename_i s z r w k v p seed n cr
    obtain ⟨⟨⟨hc, hs⟩, h0, h2⟩, h⟩ := h
    refine footPf_ok hX ?_
    show footPf tabLaid 20 [] rndG [cfgV s z r w k v p, .int .u64 seed, .int .i64 n, .bool cr] H K
    rw [rnd_pf, rnd1_no hc h0]
    refine ⟨hs, bif_false rfl (bif_false (decide_eq_false (by omega)) ?_)⟩
    cases hb : Nat.beq H.next 22
    · simp only [hb, cond_false] at h
      exact bif_false (decide_eq_false (by omega)) h.2
    · simp only [hb, cond_true] at h
      exact h
  · exact h.elim
theorem pfPs_ok (s z r w k v p : Int) : PfOk (XPs s z r w k v p) (pfPs s z r w k v p) := pf_cons (pMd_ok rfl) (pf_cons (pRnd_ok rfl) (pf_cons (fun _ _ _ h => footPf_ok (X := XPs s z r w k v p) rfl h) (pf_cons (pChk_ok rfl) (pf_cons (pFit_ok rfl) (pf_cons (pVck_ok rfl) (noPf_ok _))))))
theorem op_facts {z v k a b : Int} {key val : ByteArray} (h : OpGood z v (k, a, b, key, val)) : (k = 1 ∨ k = 2 ∨ k = 3 → isLet key) ∧ (k = 1 → (val.size : Int) ≤ v) := by
  generalize ho : ((k, a, b, key, val) : EK.C kOp) = o at h
  cases h with
  | put key val hk hv => cases ho; exact ⟨fun _ => hk, fun _ => hv⟩
  | del key hk => cases ho; exact ⟨fun _ => hk, fun h => by omega⟩
  | get key hk => cases ho; exact ⟨fun _ => hk, fun h => by omega⟩
  | plain k hk => cases ho; exact ⟨fun h => by omega, fun h => by omega⟩
  | policy a ha => cases ho; exact ⟨fun h => by omega, fun h => by omega⟩
  | crash a b ks ha hb hks => cases ho; exact ⟨fun h => by omega, fun h => by omega⟩
section
variable {s z r w k v p : Int}
theorem ps_loop (hc : cfgOk s z r w k v p) (cr : Bool) (l : List (EK.C kOp)) (n : Nat) (hl : l.length = n) (hn : n ≤ 2000) (hg : ∀ o ∈ l, OpGood z v o ∧ (cr = false → o.1 ≠ 7 ∧ o.1 ≠ 8)) : ∀ (m i : Nat), n - i = m → i ≤ n →
    EndsN (XPs s z r w k v p) 20 f_drumlinlaw41_PlayScripts (fun v' _ => v' = .bool true) (psT s z r w k v p cr l n n i) := by
  have hc2 := hc
  unfold cfgOk at hc2
  intro m
  induction m with
  | zero =>
    intro i hm hi
    refine VCu_ok (pfPs_ok s z r w k v p) (ids := []) (S := psS) (P := rowAt 75) rfl (Q := fun v' _ => v' = .bool true) (R := fun _ => False) (fun v H h => h) (fun c h => h.elim) 4000 _ ?_
    cases cr
    · rw [vc_psLf]
      exact bif_decide (fun h => by exfalso; omega) (fun _ => rfl)
    · rw [vc_psLt]
      exact bif_decide (fun h => by exfalso; omega) (fun _ => rfl)
  | succ m ih =>
    intro i hm hi
    have hlt : i < n := by omega
    refine VCu_ok (pfPs_ok s z r w k v p) (ids := []) (S := psS) (P := rowAt 75) rfl (Q := fun v' _ => v' = .bool true) (R := fun c => c = psT s z r w k v p cr l n n (i + 1 : Nat)) (fun v H h => h) (fun c h => by rw [h]; exact ih (i + 1) (by omega) (by omega)) 4000 _ ?_
    have hmem : List.getD l (0 + Int.toNat (i : Int)) (EK.dflt kOp) ∈ l := by
      rw [Int.toNat_natCast, Nat.zero_add, List.getD_eq_getElem?_getD, List.getElem?_eq_getElem (by omega)]
      exact List.getElem_mem _
    obtain ⟨ho, ho2⟩ := hg _ hmem
    have hat := at_ok hlt
    have hat0 : Nat.blt (0 + Int.toNat (i : Int)) (List.length l) = true := at_ok0 (by omega)
    cases cr
    · rw [vc_psLf, wrap64 (x := (i : Int) + 1) (by omega) (by omega)]
      refine bif_decide (fun _ => bif_true hat (bif_true hat0 ?_)) (fun h => by exfalso; omega)
      generalize List.getD l (0 + Int.toNat (i : Int)) (EK.dflt kOp) = o at ho ho2
      obtain ⟨ok, oa, ob, key, val⟩ := o
      obtain ⟨f1, f2⟩ := op_facts ho
      obtain ⟨e7, e8⟩ := ho2 rfl
      have g : OpGood 8192 512 (ok, oa, ob, key, val) := ho.mono (by omega) (by omega)
      have hk : 1 ≤ k ∧ k ≤ 32 := by omega
      have hv : 0 ≤ v ∧ v ≤ 512 := by omega
      refine ⟨g, bif_false (beq_eq_false_iff_ne.2 e7) (bif_false (beq_eq_false_iff_ne.2 e8) ?_)⟩
      refine bif_both (fun e1 => ⟨⟨f1 (.inl (eq_of_beq e1)), hk⟩, bif_both (fun e => ⟨⟨hv, f2 (eq_of_beq e)⟩, rfl⟩) fun _ => rfl⟩) fun _ => ?_
      refine bif_both (fun e1 => ⟨⟨f1 (.inr (.inl (eq_of_beq e1))), hk⟩, bif_both (fun e => ⟨⟨hv, f2 (eq_of_beq e)⟩, rfl⟩) fun _ => rfl⟩) fun _ => ?_
      refine bif_both (fun e1 => ⟨⟨f1 (.inr (.inr (eq_of_beq e1))), hk⟩, bif_both (fun e => ⟨⟨hv, f2 (eq_of_beq e)⟩, rfl⟩) fun _ => rfl⟩) fun _ => ?_
      exact bif_both (fun e => ⟨⟨hv, f2 (eq_of_beq e)⟩, rfl⟩) fun _ => rfl
    · rw [vc_psLt, wrap64 (x := (i : Int) + 1) (by omega) (by omega)]
      refine bif_decide (fun _ => bif_true hat (bif_true hat0 ?_)) (fun h => by exfalso; omega)
      generalize List.getD l (0 + Int.toNat (i : Int)) (EK.dflt kOp) = o at ho ho2
      obtain ⟨ok, oa, ob, key, val⟩ := o
      obtain ⟨f1, f2⟩ := op_facts ho
      have g : OpGood 8192 512 (ok, oa, ob, key, val) := ho.mono (by omega) (by omega)
      have hk : 1 ≤ k ∧ k ≤ 32 := by omega
      have hv : 0 ≤ v ∧ v ≤ 512 := by omega
      refine ⟨g, ?_⟩
      refine bif_both (fun e1 => ⟨⟨f1 (.inl (eq_of_beq e1)), hk⟩, bif_both (fun e => ⟨⟨hv, f2 (eq_of_beq e)⟩, rfl⟩) fun _ => rfl⟩) fun _ => ?_
      refine bif_both (fun e1 => ⟨⟨f1 (.inr (.inl (eq_of_beq e1))), hk⟩, bif_both (fun e => ⟨⟨hv, f2 (eq_of_beq e)⟩, rfl⟩) fun _ => rfl⟩) fun _ => ?_
      refine bif_both (fun e1 => ⟨⟨f1 (.inr (.inr (eq_of_beq e1))), hk⟩, bif_both (fun e => ⟨⟨hv, f2 (eq_of_beq e)⟩, rfl⟩) fun _ => rfl⟩) fun _ => ?_
      exact bif_both (fun e => ⟨⟨hv, f2 (eq_of_beq e)⟩, rfl⟩) fun _ => rfl
theorem wrapU_in (x : Int) : seedIn (IntKind.wrap .u64 x) := by
  show seedIn (if (false && decide (x % 18446744073709551616 ≥ 9223372036854775808)) = true then x % 18446744073709551616 - 18446744073709551616 else x % 18446744073709551616)
  simp only [Bool.false_and, Bool.false_eq_true, if_false]
  unfold seedIn
  omega
theorem ps_ends (n0 n1 n2 n3 n4 n5 n6 seed many more : Int) (cr : Bool) (g0 : u32J n0) (g1 : u32J n1) (g2 : u32J n2) (g3 : u32J n3) (g4 : u32J n4) (g5 : u32J n5) (g6 : u32J n6) (hs : seedIn seed) (hm : 0 ≤ many ∧ many < 256) (hm2 : 0 ≤ more ∧ more < 256)
    (hcf : cfgV s z r w k v p = cfgV (mSf n0 n1 n2 n3 n4 n5 n6) (mZf n0 n1 n2 n3 n4 n5 n6) (mRf n0 n1 n2 n3 n4 n5 n6) (mWf n0 n1 n2 n3 n4 n5 n6) (mKf n0 n1 n2 n3 n4 n5 n6) (mVf n0 n1 n2 n3 n4 n5 n6) (mPf n0 n1 n2 n3 n4 n5 n6)) (hc : cfgOk s z r w k v p) :
    EndsN (XPs s z r w k v p) 20 f_drumlinlaw41_PlayScripts (fun v' _ => v' = .bool true) (st f_drumlinlaw41_PlayScripts 135 (psV n0 n1 n2 n3 n4 n5 n6 seed many more cr) hp0) := by
  have hx := wrapU_in ↑(BitVec.toNat (BitVec.ofInt (IntKind.bits IntKind.u64) seed ^^^ BitVec.ofInt (IntKind.bits IntKind.u64) 1099511627776))
  have hz : 0 ≤ z ∧ 0 ≤ v := by unfold cfgOk at hc; omega
  refine VCu_ok (pfPs_ok s z r w k v p) (ids := []) (S := psS) (P := rowAt 75) rfl (Q := fun v' _ => v' = .bool true)
    (R := fun c => c = psT s z r w k v p cr (opsS z v cr (seed % 4294967296) (many + more).toNat) (many + more).toNat (many + more).toNat (0 : Nat)) (fun v H h => h) (fun c h => ?_) 4000 _ ?_
  · rw [h]
    exact ps_loop hc cr _ _ (opsS_length _ _ _ _ _) (by omega) (fun o ho => opsS_good z v cr _ hz.1 hz.2 _ o ho) _ 0 rfl (Nat.zero_le _)
  have hcnd : (decide ((0 : Int) ≤ (many.toNat : Int)) && Nat.ble (Int.toNat (many.toNat : Int)) (many + more).toNat && decide ((0 : Int) ≤ 0) && Nat.ble 0 (Int.toNat (many.toNat : Int))) = true := c0 (by omega)
  have htk : ∀ x, List.take many.toNat (opsS z v cr x many.toNat) = List.take many.toNat (opsS z v cr x (many + more).toNat) := fun x => by
    rw [show (many + more).toNat = many.toNat + more.toNat by omega, opsS_take, List.take_of_length_le (by rw [opsS_length]; exact Nat.le_refl _)]
  have b0 : many ≤ 0 → ((0 : Int) != many) = false := fun h => bne_eq_false_iff_eq.2 (by omega)
  have b1 : (Int.ofNat (Int.toNat many) != many) = false := bne_eq_false_iff_eq.2 (by simp only [Int.ofNat_eq_natCast]; omega)
  have b2 : (Int.ofNat (Int.toNat (many + more)) != (many + more)) = false := bne_eq_false_iff_eq.2 (by simp only [Int.ofNat_eq_natCast]; omega)
  have l1 : ∀ x, Int.toNat many ≤ List.length (opsS z v cr x (Int.toNat many)) := fun x => by rw [opsS_length]; exact Nat.le_refl _
  have l2 : ∀ x, Int.toNat many ≤ List.length (opsS z v cr x (Int.toNat (many + more))) := fun x => by rw [opsS_length]; omega
  cases cr
  · rw [vc_psAf, wrap64 (x := many) (by omega) (by omega), wrap64 (x := more) (by omega) (by omega), wrap64 (x := many + more) (by omega) (by omega), seed_xor seed hs.1 hs.2]
    refine ⟨⟨g0, g1, g2, g3, g4, g5, g6, hcf⟩, ⟨⟨hc, hs⟩, by omega, by omega⟩, bif_decide (fun h => ?_) (fun h => ?_)⟩
    · refine ⟨⟨⟨hc, hx⟩, by omega, by omega⟩, bif_decide (fun h2 => bif_false (b0 h) (bif_false (bne_eq_false_iff_eq.2 (by omega)) rfl)) (fun h2 => bif_false (b0 h) (bif_false b2 ⟨⟨rfl, rfl⟩, rfl⟩))⟩
    · exact ⟨⟨⟨hc, hx⟩, by omega, by omega⟩, by omega, bif_false b1 (bif_false b2 (bif_true hcnd ⟨⟨rfl, rfl, rfl, l1 _, l2 _, htk _, by omega⟩, rfl⟩))⟩
  · rw [vc_psAt, wrap64 (x := many) (by omega) (by omega), wrap64 (x := more) (by omega) (by omega), wrap64 (x := many + more) (by omega) (by omega), seed_xor seed hs.1 hs.2]
    refine ⟨⟨g0, g1, g2, g3, g4, g5, g6, hcf⟩, ⟨⟨hc, hs⟩, by omega, by omega⟩, bif_decide (fun h => ?_) (fun h => ?_)⟩
    · refine ⟨⟨⟨hc, hx⟩, by omega, by omega⟩, bif_decide (fun h2 => bif_false (b0 h) (bif_false (bne_eq_false_iff_eq.2 (by omega)) rfl)) (fun h2 => bif_false (b0 h) (bif_false b2 ⟨⟨rfl, rfl⟩, rfl⟩))⟩
    · exact ⟨⟨⟨hc, hx⟩, by omega, by omega⟩, by omega, bif_false b1 (bif_false b2 (bif_true hcnd ⟨⟨rfl, rfl, rfl, l1 _, l2 _, htk _, by omega⟩, rfl⟩))⟩
end
theorem allPs (hw : KnownOk Tryz.prog tabLaid wrkK) (hwf : wrkK.f = f_drumlinlaw41_works) (hA : AllOk Tryz.prog tabLaid bFs) (h32 : IOk Tryz.prog tabLaid f_strconv_Itoa itoaI) (hs : IOk Tryz.prog tabLaid f_strings_Split splitI) (hi : IOk Tryz.prog tabLaid f_strings_Index indexI) (ha : IOk Tryz.prog tabLaid f_strconv_Atoi atoiI) (s z r w k v p : Int) :
    AllOk Tryz.prog tabLaid (psFs s z r w k v p) :=
  AllOk.cons (hwf ▸ iok_known hw) (AllOk.cons (iok_md s z r w k v p) (AllOk.cons (iok_rnd7 hA) (AllOk.cons iok_eq2 (AllOk.cons (iok_chk iok_key h32 (iok_read hs (iok_num ha h32) hi)) (AllOk.cons iok_fits (AllOk.cons iok_vck (AllOk.nil _ _)))))))
end Go.Ideal
