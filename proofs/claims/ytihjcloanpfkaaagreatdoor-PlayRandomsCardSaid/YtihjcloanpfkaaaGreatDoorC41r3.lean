/-
  Part of the proof: the machine that runs a program by fixed orders, and that each of its runs is a run of the model; or a run of it in parts. No conditions.
-/
import Derived.Test.YtihjcloanpfkaaaGreatDoorC41r2
set_option maxRecDepth 1000000
namespace Go.Ideal
open Go.Proofs
/-- Whether a configuration is allowed. -/
def cfgOk (s z r w k v p : Int) : Prop := 2 ≤ r ∧ r ≤ 8 ∧ r + 2 ≤ s ∧ s ≤ 32 ∧ 1 ≤ k ∧ k ≤ 32 ∧ 0 ≤ v ∧ v ≤ 512 ∧ 32 + k + v ≤ z ∧ z ≤ 8192 ∧ 2 * (32 + k + v) ≤ w ∧ w ≤ 65536 ∧ 1 ≤ p ∧ p ≤ 2
instance (s z r w k v p : Int) : Decidable (cfgOk s z r w k v p) := by unfold cfgOk; exact inferInstance
def cfgErr (s z r w k v p : Int) : Int := if cfgOk s z r w k v p then 0 else 2
theorem cfg_no {s z r w k v p : Int} (h : ¬ cfgOk s z r w k v p) : (Value.int .i64 2) = .int .i64 (cfgErr s z r w k v p) := by unfold cfgErr; rw [if_neg h]
theorem cfg_yes {s z r w k v p : Int} (h : cfgOk s z r w k v p) : (Value.int .i64 0) = .int .i64 (cfgErr s z r w k v p) := by unfold cfgErr; rw [if_pos h]
theorem conf_ends (s z r w k v p : Int) : EndsIn X0 24 (fun v' _ => v' = .int .i64 (cfgErr s z r w k v p)) (st 24 55 [cfgV s z r w k v p] hp0) := by
  refine (VC_ok (ids := []) (Q := fun v' _ => v' = .int .i64 (cfgErr s z r w k v p)) 1000 _ ?_)
  rw [vc_conf]
  repeat (refine ⟨rfl, ?_⟩)
  refine bif_decide (fun h => cfg_no (by unfold cfgOk; omega)) fun h1 => ?_
  refine bif_decide (fun h => cfg_no (by unfold cfgOk; omega)) fun h2 => ?_
  rw [wrap64 (x := r + 2) (by omega) (by omega)]
  refine bif_decide (fun h => cfg_no (by unfold cfgOk; omega)) fun h3 => ?_
  refine bif_decide (fun h => cfg_no (by unfold cfgOk; omega)) fun h4 => ?_
  refine bif_decide (fun h => cfg_no (by unfold cfgOk; omega)) fun h5 => ?_
  refine bif_decide (fun h => cfg_no (by unfold cfgOk; omega)) fun h6 => ?_
  refine bif_decide (fun h => cfg_no (by unfold cfgOk; omega)) fun h7 => ?_
  refine bif_decide (fun h => cfg_no (by unfold cfgOk; omega)) fun h8 => ?_
  rw [wrap64 (x := 16 + k) (by omega) (by omega), wrap64 (x := 16 + k + v) (by omega) (by omega), wrap64 (x := 16 + (16 + k + v)) (by omega) (by omega)]
  refine bif_decide (fun h => cfg_no (by unfold cfgOk; omega)) fun h9 => ?_
  refine bif_decide (fun h => cfg_no (by unfold cfgOk; omega)) fun h10 => ?_
  rw [wrap64 (x := 16 + k + v + 16) (by omega) (by omega), wrap64 (x := 2 * (16 + k + v + 16)) (by omega) (by omega)]
  refine bif_decide (fun h => cfg_no (by unfold cfgOk; omega)) fun h11 => ?_
  refine bif_decide (fun h => cfg_no (by unfold cfgOk; omega)) fun h12 => ?_
  refine bif_decide (fun h => cfg_no (by unfold cfgOk; omega)) fun h13 => ?_
  refine bif_decide (fun h => cfg_no (by unfold cfgOk; omega)) fun h14 => ?_
  exact cfg_yes (by unfold cfgOk; omega)
theorem ref_ends (s z r w k v p : Int) : EndsIn X0 27 (fun v' _ => v' = .int .i64 (cfgErr s z r w k v p)) (st 27 56 [cfgV s z r w k v p] hp0) := by
  refine (VC_ok (ids := []) (Q := fun v' _ => v' = .int .i64 (cfgErr s z r w k v p)) 1000 _ ?_)
  rw [vc_ref]
  repeat (refine ⟨rfl, ?_⟩)
  refine bif_decide (fun h1 => ?_) (fun h => cfg_no (by unfold cfgOk; omega))
  refine bif_decide (fun h2 => ?_) (fun h => cfg_no (by unfold cfgOk; omega))
  rw [wrap64 (x := r + 2) (by omega) (by omega)]
  refine bif_decide (fun h3 => ?_) (fun h => cfg_no (by unfold cfgOk; omega))
  refine bif_decide (fun h4 => ?_) (fun h => cfg_no (by unfold cfgOk; omega))
  refine bif_decide (fun h5 => ?_) (fun h => cfg_no (by unfold cfgOk; omega))
  refine bif_decide (fun h6 => ?_) (fun h => cfg_no (by unfold cfgOk; omega))
  refine bif_decide (fun h7 => ?_) (fun h => cfg_no (by unfold cfgOk; omega))
  refine bif_decide (fun h8 => ?_) (fun h => cfg_no (by unfold cfgOk; omega))
  rw [wrap64 (x := 16 + k) (by omega) (by omega), wrap64 (x := 16 + k + v) (by omega) (by omega), wrap64 (x := 16 + (16 + k + v)) (by omega) (by omega)]
  refine bif_decide (fun h9 => ?_) (fun h => cfg_no (by unfold cfgOk; omega))
  refine bif_decide (fun h10 => ?_) (fun h => cfg_no (by unfold cfgOk; omega))
  rw [wrap64 (x := 16 + k + v + 16) (by omega) (by omega), wrap64 (x := 2 * (16 + k + v + 16)) (by omega) (by omega)]
  refine bif_decide (fun h11 => ?_) (fun h => cfg_no (by unfold cfgOk; omega))
  refine bif_decide (fun h12 => ?_) (fun h => cfg_no (by unfold cfgOk; omega))
  refine bif_decide (fun h13 => ?_) (fun h => cfg_no (by unfold cfgOk; omega))
  refine bif_decide (fun h14 => ?_) (fun h => cfg_no (by unfold cfgOk; omega))
  exact cfg_yes (by unfold cfgOk; omega)

noncomputable def fCfg : IFun := fun args H => match args with
  | [.agg ⟨[.int .i64 s, .int .i64 z, .int .i64 r, .int .i64 w, .int .i64 k, .int .i64 v, .int .i64 p]⟩] => some (.int .i64 (cfgErr s z r w k v p), H)
  | _ => none
noncomputable def cfgG (args : List Value) (objs : List IObj) : GT := match args, objs with
  | [.agg ⟨[.int .i64 s, .int .i64 z, .int .i64 r, .int .i64 w, .int .i64 k, .int .i64 v, .int .i64 p]⟩], [] => .ret ⟨.int .i64 (cfgErr s z r w k v p), [], []⟩
  | _, _ => .fail
theorem cfg_foot (args : List Value) (H : IHeap) (r : Value × IHeap) (h : fCfg args H = some r) : footF tabLaid 20 [] cfgG args H = some r := by
  unfold fCfg at h
  split at h
  · cases h; rfl
  · cases h
theorem iok_cfg {f : FuncId} {n : Nat} (he : entry Tryz.prog f = some (n, pcOf Tryz.prog f [])) (hn : 1 ≤ n) (hE : ∀ s z r w k v p, EndsIn X0 f (fun v' _ => v' = .int .i64 (cfgErr s z r w k v p)) (st f n [cfgV s z r w k v p] hp0)) : IOk Tryz.prog tabLaid f fCfg :=
  IOk.sub (iok_foot (fs := []) (AllOk.nil _ _) (by kernel_rfl) (n := n) (N := 20) (muts := []) (G := cfgG) he (by kernel_rfl) fun argsc objs x hx _ => by
    unfold cfgG at hx
    split at hx
    · cases hx
      refine ⟨by simpa using hn, EndsN.mono (hE _ _ _ _ _ _ _).toN fun v H h => ?_⟩
      subst h
      exact tm_plain (by rfl)
    · cases hx) cfg_foot
theorem iok_conf : IOk Tryz.prog tabLaid 24 fCfg := iok_cfg (n := 55) (by kernel_rfl) (by omega) conf_ends
theorem iok_cref : IOk Tryz.prog tabLaid 27 fCfg := iok_cfg (n := 56) (by kernel_rfl) (by omega) ref_ends

/-! Digits. -/
theorem hex_at : ∀ n : _root_.Fin 10, ByteArray.extract { data := #[48, 49, 50, 51, 52, 53, 54, 55, 56, 57, 97, 98, 99, 100, 101, 102] } n.val (n.val + 1) = ltr 48 n.val := by decide +kernel
theorem hex_ltr {n : Int} (h0 : 0 ≤ n) (h : n < 10) : ByteArray.extract { data := #[48, 49, 50, 51, 52, 53, 54, 55, 56, 57, 97, 98, 99, 100, 101, 102] } (Int.toNat n) (Int.toNat (n + 1)) = ltr 48 n := by
  have := hex_at ⟨n.toNat, by omega⟩
  have e1 : (n + 1).toNat = n.toNat + 1 := by omega
  have e2 : ((n.toNat : Nat) : Int) = n := by omega
  rw [e1]
  simpa [e2] using this
theorem slice_ok {n m : Int} {k : Nat} (h0 : 0 ≤ n) (h1 : n ≤ m) (h2 : m ≤ k) : (decide (0 ≤ m) && Nat.ble (Int.toNat m) k && decide (0 ≤ n) && Nat.ble (Int.toNat n) (Int.toNat m)) = true := by
  simp only [Bool.and_eq_true, decide_eq_true_eq]
  exact ⟨⟨⟨by omega, Nat.ble_eq_true_of_le (by omega)⟩, h0⟩, Nat.ble_eq_true_of_le (by omega)⟩
theorem pfDg_ok (b : Int) : PfOk (XDg b) (pfDg b) := by
  intro f F hf args H K hF
  unfold pfDg at hf
  cases h1 : Nat.beq f 36
  · rw [h1] at hf; cases hf
  rw [h1] at hf; cases hf
  have := Nat.eq_of_beq_eq_true h1; subst this
  unfold pDgB at hF
  split at hF
  · rename_i n
    refine ⟨_, _, ?_, hF.2⟩
    show fDgB b [.int .u64 n] H = _
    unfold fDgB
    exact if_pos hF.1
  · cases hF
theorem dg_ends (b : Int) (hb2 : b ≤ 1000000) (n : Int) (h0 : 0 ≤ n) (h : n < 10 * b ∨ n < 10) : EndsIn (XDg b) 36 (fun v' _ => v' = .string (decB n)) (st 36 16 [.int .u64 n] hp0) := by
  refine VCp_ok (pfDg_ok b) (ids := []) (Q := fun v' _ => v' = .string (decB n)) 1000 _ ?_
  rw [vc_dgB]
  have hsz : ByteArray.size { data := #[48, 49, 50, 51, 52, 53, 54, 55, 56, 57, 97, 98, 99, 100, 101, 102] } = 16 := rfl
  refine bif_decide (fun h1 => ?_) (fun h1 => ?_)
  · rw [wrap64 (x := n) (by omega) (by omega), wrap64 (x := n + 1) (by omega) (by omega), hsz]
    refine bif_true (slice_ok h0 (by omega) (by omega)) ?_
    rw [hex_ltr h0 h1, decB_small h0 h1]
  · have e1 : Int.tdiv n 10 = n / 10 := Int.tdiv_eq_ediv_of_nonneg h0
    have e2 : Int.tmod n 10 = n % 10 := Int.tmod_eq_emod_of_nonneg h0
    rw [e1, e2, wrapU64 (x := n / 10) (by omega) (by omega), wrap64 (x := n % 10) (by omega) (by omega), wrap64 (x := n % 10 + 1) (by omega) (by omega), hsz, hex_ltr (by omega) (by omega)]
    refine ⟨⟨by omega, by omega⟩, bif_true (slice_ok (by omega) (by omega) (by omega)) (bif_true (Nat.ble_eq_true_of_le ?_) ?_)⟩
    · have := decB_size 6 (n / 10) (by omega)
      rw [ltr_size]; omega
    · show Value.string _ = _
      rw [decB_big (n := n) (by omega)]
open Classical in
noncomputable def dgG (b : Int) (args : List Value) (objs : List IObj) : GT := match args, objs with
  | [.int .u64 n], [] => .ask (0 ≤ n ∧ n < b) (.ret ⟨.string (decB n), [], []⟩)
  | _, _ => .fail
theorem dg_foot (b : Int) (args : List Value) (H : IHeap) (r : Value × IHeap) (h : fDgB b args H = some r) : footF tabLaid 20 [] (dgG b) args H = some r := by
  unfold fDgB at h
  split at h
  · rename_i n
    split at h
    · rename_i hc
      cases h
      have e : footF tabLaid 20 [] (dgG b) [.int .u64 n] H = match (dgG b [.int .u64 n] []).run with | some x => footEnd tabLaid 20 [] [] H x | none => none := rfl
      rw [e]
      unfold dgG
      simp only [GT.run, if_pos hc]
      rfl
    · cases h
  · cases h
theorem iok_dgStep (b c : Int) (hb2 : b ≤ 1000000) (hc : c ≤ 10 * b ∨ c = 10) (h : IOk Tryz.prog tabLaid 36 (fDgB b)) : IOk Tryz.prog tabLaid 36 (fDgB c) :=
  IOk.sub (iok_foot (fs := [(36, fDgB b)]) (AllOk.cons h (AllOk.nil _ _)) (by kernel_rfl) (n := 16) (N := 20) (muts := []) (G := dgG c) (by kernel_rfl) (by kernel_rfl) fun argsc objs x hx _ => by
    unfold dgG at hx
    split at hx
    · rename_i n _
      simp only [GT.run] at hx
      split at hx
      · rename_i hn
        cases hx
        refine ⟨by simp, EndsN.mono (dg_ends b hb2 n hn.1 (by omega)).toN fun v H h => ?_⟩
        subst h
        exact tm_plain (by rfl)
      · cases hx
    · cases hx) (dg_foot _)
theorem iok_dg0 : IOk Tryz.prog tabLaid 36 (fDgB 0) := by
  refine ⟨⟨16, pcOf Tryz.prog 36 [], by kernel_rfl⟩, ?_⟩
  intro base W0 μ H W args args' v H' _ _ _ _ hF
  unfold fDgB at hF
  split at hF
  · split at hF
    · rename_i hc; omega
    · cases hF
  · cases hF
theorem iok_dg : IOk Tryz.prog tabLaid 36 (fDgB 100000) :=
  iok_dgStep 10000 100000 (by omega) (.inl (by omega)) (iok_dgStep 1000 10000 (by omega) (.inl (by omega)) (iok_dgStep 100 1000 (by omega) (.inl (by omega)) (iok_dgStep 10 100 (by omega) (.inl (by omega)) (iok_dgStep 0 10 (by omega) (.inr rfl) iok_dg0))))
end Go.Ideal
