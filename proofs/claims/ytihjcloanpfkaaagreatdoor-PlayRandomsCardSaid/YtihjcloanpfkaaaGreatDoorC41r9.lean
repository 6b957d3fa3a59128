/-
  Part of the proof: the machine that runs a program by fixed orders, and that each of its runs is a run of the model; or a run of it in parts. No conditions.
-/
import Derived.Test.YtihjcloanpfkaaaGreatDoorC41r8
set_option maxRecDepth 1000000
namespace Go.Ideal
open Go.Proofs
theorem pfD_ok : PfOk XD pfD := by
  intro f F hf args H K hF
  unfold pfD at hf
  cases h1 : Nat.beq f 52
  rotate_left
  · rw [h1] at hf; cases hf
    have := Nat.eq_of_beq_eq_true h1; subst this
    exact footPf_ok (X := XD) rfl hF
  rw [h1] at hf
  cases h2 : Nat.beq f 36
  · rw [h2] at hf; cases hf
  rw [h2] at hf; cases hf
  have := Nat.eq_of_beq_eq_true h2; subst this
  unfold pDgB at hF
  split at hF
  · rename_i n
    refine ⟨_, _, ?_, hF.2⟩
    show fDgB 100000 [.int .u64 n] H = _
    unfold fDgB
    exact if_pos hF.1
  · cases hF
theorem empty_app (a : ByteArray) : ByteArray.empty ++ a = a := by
  apply ByteArray.ext
  rw [ByteArray.data_append]
  simp
theorem sz_empty : ByteArray.size ByteArray.empty = 0 := rfl
theorem sz_comma : ByteArray.size { data := #[44] } = 1 := rfl
theorem comma_eq : ({ data := #[44] } : ByteArray) = comma := rfl
/-- What the reference's crash leaves. -/
def RcQ (s z r w k v p : Int) (cr : Bool) (x : Int) (v' : Value) (os : List (Option IObj)) : Prop :=
  v' = .agg ⟨EK.enc kOp (crS z x).1⟩ ∧ os = [some (draws (crS z x).2 s z r w k v p cr)]
theorem RcQ.of {s z r w k v p x : Int} {cr : Bool} {e : EK.C kOp × Int} (h : crS z x = e) {v' : Value} {os : List (Option IObj)} (h1 : v' = .agg ⟨EK.enc kOp e.1⟩) (h2 : os = [some (draws e.2 s z r w k v p cr)]) : RcQ s z r w k v p cr x v' os := by
  unfold RcQ; rw [h]; exact ⟨h1, h2⟩
theorem rc_ends (x s z r w k v p : Int) (cr : Bool) (hz : 0 ≤ z) (hz2 : z ≤ 10000) (hx : u32In x) :
    EndsN XD 21 54 (fun v' Hf => RcQ s z r w k v p cr x v' ([20].map Hf.get)) (st 54 40 [pd] (hp0.alloc (draws x s z r w k v p cr))) := by
  obtain ⟨h3, h4⟩ := dr_in (nx (nx x)) 3 (by omega)
  have hw : IntKind.wrap .i64 (z + 1) = z + 1 := wrap64 (by omega) (by omega)
  have d1 := dr_in (nx (nx (nx x))) (z + 1) (by omega)
  have d2 := dr_in (nx (nx (nx (nx x)))) (z + 1) (by omega)
  have d3 := dr_in (nx (nx (nx (nx (nx x))))) (z + 1) (by omega)
  have w1 : IntKind.wrap .u64 (dr (nx (nx (nx x))) (z + 1)) = dr (nx (nx (nx x))) (z + 1) := wrapU64 (by omega) (by omega)
  have w2 : IntKind.wrap .u64 (dr (nx (nx (nx (nx x)))) (z + 1)) = dr (nx (nx (nx (nx x)))) (z + 1) := wrapU64 (by omega) (by omega)
  have w3 : IntKind.wrap .u64 (dr (nx (nx (nx (nx (nx x))))) (z + 1)) = dr (nx (nx (nx (nx (nx x))))) (z + 1) := wrapU64 (by omega) (by omega)
  have sz1 := dec_le (n := dr (nx (nx (nx x))) (z + 1)) (by omega)
  have sz2 := dec_le (n := dr (nx (nx (nx (nx x)))) (z + 1)) (by omega)
  have sz3 := dec_le (n := dr (nx (nx (nx (nx (nx x))))) (z + 1)) (by omega)
  have i0 := nx_in
  refine VCs_ok pfD_ok (ids := [20]) (S := rcS) rfl (Q := fun _ _ => False) (R := fun c => c = rcT (nx (nx (nx x))) s z r w k v p cr (dr x 12) (dr (nx x) 2) (1 + dr (nx (nx x)) 3)) (fun v H h => h.elim) (fun c hcc => ?_) 2000 _ ?_
  · rw [hcc]
    have hcases : dr (nx (nx x)) 3 = 0 ∨ dr (nx (nx x)) 3 = 1 ∨ dr (nx (nx x)) 3 = 2 := by omega
    refine EndsN.mono (Q := fun v' Hf => RcQ s z r w k v p cr x v' (([20] ++ refsN 4 v').map Hf.get)) ?_ fun v' Hf h => ?_
    · rcases hcases with h0 | h0 | h0
      · rw [h0]
        refine (VCp_ok pfD_ok (ids := [20]) (Q := RcQ s z r w k v p cr x) 2000 _ ?_).toN
        show VCp XD pfD 54 [20] _ 2000 (rcT _ s z r w k v p cr _ _ 1)
        have e : crS z x = ((7, dr x 12, dr (nx x) 2, ByteArray.empty, decB (dr (nx (nx (nx x))) (z + 1))), nx (nx (nx (nx x)))) := by
          unfold crS; simp only [h0, if_true, joinB_one]
        rw [vc_rc1]
        simp only [hw, w1, empty_app, sz_empty]
        refine ⟨⟨by omega, i0 _⟩, trivial, trivial, ⟨d1.1, by omega⟩, trivial, trivial, bif_true (Nat.ble_eq_true_of_le (by omega)) (RcQ.of e rfl rfl)⟩
      · rw [h0]
        refine (VCp_ok pfD_ok (ids := [20]) (Q := RcQ s z r w k v p cr x) 2000 _ ?_).toN
        show VCp XD pfD 54 [20] _ 2000 (rcT _ s z r w k v p cr _ _ 2)
        have e : crS z x = ((7, dr x 12, dr (nx x) 2, ByteArray.empty, decB (dr (nx (nx (nx x))) (z + 1)) ++ comma ++ decB (dr (nx (nx (nx (nx x)))) (z + 1))), nx (nx (nx (nx (nx x))))) := by
          unfold crS; simp only [h0, if_true, if_false, show ¬ (1 : Int) = 0 by omega, joinB_two]
        rw [vc_rc2]
        simp only [hw, w1, w2, empty_app, sz_empty, ByteArray.size_append, sz_comma]
        refine ⟨⟨by omega, i0 _⟩, trivial, trivial, ⟨d1.1, by omega⟩, trivial, trivial, bif_true (Nat.ble_eq_true_of_le (by omega)) (bif_true (Nat.ble_eq_true_of_le (by omega)) ⟨⟨by omega, i0 _⟩, trivial, trivial, ⟨d2.1, by omega⟩, trivial, trivial, bif_true (Nat.ble_eq_true_of_le (by omega)) (RcQ.of e rfl rfl)⟩)⟩
      · rw [h0]
        refine (VCp_ok pfD_ok (ids := [20]) (Q := RcQ s z r w k v p cr x) 2000 _ ?_).toN
        show VCp XD pfD 54 [20] _ 2000 (rcT _ s z r w k v p cr _ _ 3)
        have e : crS z x = ((7, dr x 12, dr (nx x) 2, ByteArray.empty, decB (dr (nx (nx (nx x))) (z + 1)) ++ comma ++ decB (dr (nx (nx (nx (nx x)))) (z + 1)) ++ comma ++ decB (dr (nx (nx (nx (nx (nx x))))) (z + 1))), nx (nx (nx (nx (nx (nx x)))))) := by
          unfold crS; simp only [h0, if_false, show ¬ (2 : Int) = 0 by omega, show ¬ (2 : Int) = 1 by omega, joinB_three]
        rw [vc_rc3]
        simp only [hw, w1, w2, w3, empty_app, sz_empty, ByteArray.size_append, sz_comma]
        refine ⟨⟨by omega, i0 _⟩, trivial, trivial, ⟨d1.1, by omega⟩, trivial, trivial, bif_true (Nat.ble_eq_true_of_le (by omega)) (bif_true (Nat.ble_eq_true_of_le (by omega)) ⟨⟨by omega, i0 _⟩, trivial, trivial, ⟨d2.1, by omega⟩, trivial, trivial,
          bif_true (Nat.ble_eq_true_of_le (by omega)) (bif_true (Nat.ble_eq_true_of_le (by omega)) ⟨⟨by omega, i0 _⟩, trivial, trivial, ⟨d3.1, by omega⟩, trivial, trivial, bif_true (Nat.ble_eq_true_of_le (by omega)) (RcQ.of e rfl rfl)⟩)⟩)⟩
    · have h1 := h.1
      rw [h1] at h ⊢
      exact h
  · rw [vc_rc0, wrap64 (x := 1 + dr (nx (nx x)) 3) (by omega) (by omega)]
    exact ⟨⟨by omega, hx⟩, ⟨by omega, i0 _⟩, ⟨by omega, i0 _⟩, rfl⟩
open Classical in
noncomputable def rcG (args : List Value) (objs : List IObj) : GT := match args, objs with
  | [.pointer (some ⟨20, 0, none⟩)], [.cells [.int .u64 x, .int .i64 s, .int .i64 z, .int .i64 r, .int .i64 w, .int .i64 k, .int .i64 v, .int .i64 p, .bool cr] 0 false] =>
    .ask (0 ≤ z ∧ z ≤ 10000 ∧ u32In x) (.ret ⟨.agg ⟨EK.enc kOp (crS z x).1⟩, [some (draws (crS z x).2 s z r w k v p cr)], []⟩)
  | _, _ => .fail
theorem allD : AllOk Tryz.prog tabLaid dFs := AllOk.cons iok_rblw (AllOk.cons iok_dg (AllOk.nil _ _))
theorem iok_rc : IOk Tryz.prog tabLaid 54 (footF tabLaid 20 [true] rcG) := by
  refine iok_foot (fs := dFs) allD (by kernel_rfl) (n := 40) (by kernel_rfl) (by kernel_rfl) fun argsc objs x hx hro => ?_
  unfold rcG at hx
  split at hx
  · rename_i x0 s z r w k v p cr
    simp only [GT.run] at hx
    split at hx
    · rename_i hz
      cases hx
      refine ⟨by simp, EndsN.mono (rc_ends x0 s z r w k v p cr hz.1 hz.2.1 hz.2.2) fun v' Hf h => ?_⟩
      obtain ⟨rfl, h2⟩ := h
      refine tm_olds (by rfl) fun j o hj _ ho => ?_
      have hj : j = 0 := by simpa using hj
      subst hj
      cases ho; exact ⟨_, rfl, (List.cons.inj h2).1⟩
    · cases hx
  · cases hx
end Go.Ideal
