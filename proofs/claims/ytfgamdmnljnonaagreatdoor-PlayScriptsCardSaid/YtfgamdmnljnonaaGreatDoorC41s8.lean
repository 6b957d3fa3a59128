/-
  Part of the proof: the machine that runs a program by fixed orders, and that each of its runs is a run of the model; or a run of it in parts. No conditions.
-/
import Derived.Test.YtfgamdmnljnonaaGreatDoorC41s7
set_option maxRecDepth 1000000
namespace Go.Ideal
open Go.Proofs
theorem key_ends {s : ByteArray} (h : isLet s) : EndsIn X0 f_key_Check (fun v' _ => v' = .int .i64 0) (st f_key_Check 20 [.string s] hp0) := by
  obtain ⟨j, h0, h1, rfl⟩ := h
  refine VC_ok (ids := []) (Q := fun v' _ => v' = .int .i64 0) 3000 _ ?_
  have hj : j = 0 ∨ j = 1 ∨ j = 2 ∨ j = 3 ∨ j = 4 ∨ j = 5 ∨ j = 6 ∨ j = 7 := by omega
  rcases hj with rfl | rfl | rfl | rfl | rfl | rfl | rfl | rfl
  · rw [vc_k0]
  · rw [vc_k1]
  · rw [vc_k2]
  · rw [vc_k3]
  · rw [vc_k4]
  · rw [vc_k5]
  · rw [vc_k6]
  · rw [vc_k7]
theorem iok_key : IOk Tryz.prog tabLaid f_key_Check qKey.F := by
  refine iok_plain (fs := []) (AllOk.nil _ _) (n := 20) (by kernel_rfl) fun args h => ?_
  unfold qKey at h
  simp only at h
  split at h
  · exact ⟨rfl, by simp, rfl, (key_ends h).toN⟩
  · exact h.elim
theorem pfFt_ok : PfOk XFt pfFt := pf_cons (pKey_ok rfl) (noPf_ok _)
theorem fits_ends {s : ByteArray} {m : Int} (h : isLet s) (hm : 1 ≤ m ∧ m ≤ 32) : EndsN XFt 20 f_key_Fits (fun v' _ => v' = .int .i64 0) (st f_key_Fits 21 [.string s, .int .i64 m] hp0) := by
  refine (VCp_ok pfFt_ok (ids := []) (Q := fun v' _ => v' = .int .i64 0) 1000 _ ?_).toN
  have h1 := let_size h
  rw [vc_fits]
  refine bif_decide (fun h => by omega) fun _ => bif_decide (fun h => by omega) fun _ => ⟨h, bif_decide (fun h => by rw [h1] at h; simp only [Int.ofNat_eq_natCast] at h; omega) fun _ => rfl⟩
theorem vck_ends {s : ByteArray} {m : Int} (hm : 0 ≤ m ∧ m ≤ 512) (hs : (s.size : Int) ≤ m) : EndsN X0 20 f_value_Check (fun v' _ => v' = .int .i64 0) (st f_value_Check 17 [.string s, .int .i64 m] hp0) := by
  refine EndsIn.toN (VC_ok (ids := []) (Q := fun v' _ => v' = .int .i64 0) 1000 _ ?_)
  rw [vc_vck]
  refine bif_decide (fun h => by omega) fun _ => bif_decide (fun h => by omega) fun _ => bif_decide (fun h => by simp only [Int.ofNat_eq_natCast] at h; omega) fun _ => rfl
noncomputable def qFit : PlainF where
  ok := fun args => match args with
    | [.string s, .int .i64 m] => isLet s ∧ 1 ≤ m ∧ m ≤ 32
    | _ => False
  v := fun _ => .int .i64 0
noncomputable def qVck : PlainF where
  ok := fun args => match args with
    | [.string s, .int .i64 m] => (0 ≤ m ∧ m ≤ 512) ∧ (s.size : Int) ≤ m
    | _ => False
  v := fun _ => .int .i64 0
theorem iok_fits : IOk Tryz.prog tabLaid f_key_Fits qFit.F := by
  refine iok_plain (fs := ftFs) (AllOk.cons iok_key (AllOk.nil _ _)) (n := 21) (by kernel_rfl) fun args h => ?_
  unfold qFit at h
  simp only at h
  split at h
  · exact ⟨rfl, by simp, rfl, fits_ends h.1 h.2⟩
  · exact h.elim
theorem iok_vck : IOk Tryz.prog tabLaid f_value_Check qVck.F := by
  refine iok_plain (fs := []) (AllOk.nil _ _) (n := 17) (by kernel_rfl) fun args h => ?_
  unfold qVck at h
  simp only at h
  split at h
  · exact ⟨rfl, by simp, rfl, vck_ends h.1 h.2⟩
  · exact h.elim
open Classical in
noncomputable def eqG2 (args : List Value) (objs : List IObj) : GT := match args, objs with
  | [.slice none 0 0, .slice none 0 0], [] => .ret ⟨.bool true, [], []⟩
  | [.slice none 0 0, .slice (some ⟨20, 0, some 0⟩) n c], [.vec [.int .i64, .int .i64, .int .i64, .str, .str] _ _] => .ask (n = 0 ∧ c = capU) (.ret ⟨.bool true, [], []⟩)
  | [.slice (some ⟨20, 0, some 0⟩) n c, .slice (some ⟨21, 0, some 0⟩) m d], [.vec [.int .i64, .int .i64, .int .i64, .str, .str] l _, .vec [.int .i64, .int .i64, .int .i64, .str, .str] l2 _] =>
    .ask (n = m ∧ c = capU ∧ d = capU ∧ n ≤ l.length ∧ n ≤ l2.length ∧ l.take n = l2.take n ∧ n ≤ 1000000) (.ret ⟨.bool true, [], []⟩)
  | _, _ => .fail
theorem take_at {α : Type} {l l2 : List α} {n i : Nat} (d : α) (h : l.take n = l2.take n) (hi : i < n) : l.getD i d = l2.getD i d := by
  have h1 : (l.take n)[i]? = (l2.take n)[i]? := by rw [h]
  rw [List.getElem?_take_of_lt hi, List.getElem?_take_of_lt hi] at h1
  rw [List.getD_eq_getElem?_getD, List.getD_eq_getElem?_getD, h1]
theorem eq2_loop (l m : List (EK.C kOp)) (n : Nat) (h1 : n ≤ l.length) (h2 : n ≤ m.length) (ht : l.take n = m.take n) (hn : n ≤ 1000000) : ∀ (k i : Nat), n - i = k → i ≤ n → EndsN X0 22 f_slices_Equal_api_Op_api_Op (fun v' _ => v' = .bool true) (eqT2 l m n n n i) := by
  intro k
  induction k with
  | zero =>
    intro i hm hi
    refine VCs_ok (noPf_ok X0) (ids := []) (S := eqS) rfl (Q := fun v' _ => v' = .bool true) (R := fun _ => False) (fun v H h => h) (fun c h => h.elim) 3000 _ ?_
    rw [vc_eqb]
    refine bif_decide (fun h => by exfalso; omega) (fun _ => rfl)
  | succ k ih =>
    intro i hm hi
    have hlt : i < n := by omega
    refine VCs_ok (noPf_ok X0) (ids := []) (S := eqS) rfl (Q := fun v' _ => v' = .bool true) (R := fun c => c = eqT2 l m n n n (i + 1 : Nat)) (fun v H h => h) (fun c h => by rw [h]; exact ih (i + 1) (by omega) (by omega)) 3000 _ ?_
    have he : List.getD l (0 + Int.toNat (i : Int)) (EK.dflt kOp) = List.getD m (0 + Int.toNat (i : Int)) (EK.dflt kOp) := take_at _ ht (by omega)
    rw [vc_eqb, wrap64 (x := (i : Int) + 1) (by omega) (by omega), he]
    refine bif_decide (fun _ => ?_) (fun h => by exfalso; omega)
    refine bif_true (at_ok hlt) (bif_true (at_ok0 (by omega)) (bif_true (at_ok hlt) (bif_true (at_ok0 (by omega)) ?_)))
    refine bif_false (by simp) rfl
theorem eq2_ends (l m : List (EK.C kOp)) (n : Nat) (h1 : n ≤ l.length) (h2 : n ≤ m.length) (ht : l.take n = m.take n) (hn : n ≤ 1000000) : EndsN X0 22 f_slices_Equal_api_Op_api_Op (fun v' _ => v' = .bool true) (st f_slices_Equal_api_Op_api_Op 26 [.slice (some ⟨20, 0, some 0⟩) n capU, .slice (some ⟨21, 0, some 0⟩) n capU] (putRows hp0 true [⟨kOp, l⟩, ⟨kOp, m⟩])) := by
  refine VCs_ok (noPf_ok X0) (ids := []) (S := eqS) rfl (Q := fun v' _ => v' = .bool true) (R := fun c => c = eqT2 l m n n n (0 : Nat)) (fun v H h => h) (fun c h => by rw [h]; exact eq2_loop l m n h1 h2 ht hn n 0 (by omega) (by omega)) 3000 _ ?_
  rw [vc_eqa]
  exact bif_false (by simp) rfl
theorem iok_eq2 : IOk Tryz.prog tabLaid f_slices_Equal_api_Op_api_Op (footF tabLaid 20 [] eqG2) := by
  refine iok_foot (fs := []) (AllOk.nil _ _) (by kernel_rfl) (n := 26) (by kernel_rfl) (by kernel_rfl) fun argsc objs x hx hro => ?_
  unfold eqG2 at hx
  split at hx
  · cases hx
    refine ⟨by simp, EndsN.mono (Q := fun v' _ => v' = .bool true) (EndsIn.toN ?_) fun v' Hf h => ?_⟩
    · refine VC_ok (ids := []) (Q := fun v' _ => v' = .bool true) 3000 _ ?_
      show VC X0 f_slices_Equal_api_Op_api_Op [] _ 3000 (st f_slices_Equal_api_Op_api_Op 26 [.slice none 0 0, .slice none 0 0] hp0)
      rw [vc_eqn]
    · subst h
      exact tm_plain (by rfl)
  · rename_i n c l ro
    simp only [GT.run] at hx
    split at hx
    · rename_i hc
      obtain ⟨rfl, rfl⟩ := hc
      cases hx
      refine ⟨by simp, EndsN.mono (Q := fun v' _ => v' = .bool true) (EndsIn.toN ?_) fun v' Hf h => ?_⟩
      · refine VC_ok (ids := []) (Q := fun v' _ => v' = .bool true) 3000 _ ?_
        show VC X0 f_slices_Equal_api_Op_api_Op [] _ 3000 (st f_slices_Equal_api_Op_api_Op 26 [.slice none 0 0, .slice (some ⟨20, 0, some 0⟩) 0 capU] (putRows hp0 true [⟨kOp, l⟩]))
        rw [vc_eqnr]
      · subst h
        exact tm_plain (by rfl)
    · cases hx
  · rename_i n c m d l ro l2 ro2
    simp only [GT.run] at hx
    split at hx
    · rename_i hc
      obtain ⟨rfl, rfl, rfl, h1, h2, ht, hn⟩ := hc
      cases hx
      refine ⟨by simp, EndsN.mono (eq2_ends l l2 n h1 h2 ht hn) fun v' Hf h => ?_⟩
      subst h
      exact tm_plain (by rfl)
    · cases hx
  · cases hx
def mRf : G7 := fun n0 _ _ _ _ _ _ => 2 + n0 % 7
def mKf : G7 := fun _ n1 _ _ _ _ _ => 1 + n1 % 32
def mVf : G7 := fun _ _ n2 _ _ _ _ => n2 % 513
def mPf : G7 := fun _ _ _ n3 _ _ _ => 1 + n3 % 2
def mSf : G7 := fun n0 _ _ _ n4 _ _ => 2 + n0 % 7 + 2 + n4 % (32 - (2 + n0 % 7) - 1)
def mZf : G7 := fun _ n1 n2 _ _ n5 _ => 16 + (16 + (1 + n1 % 32) + n2 % 513) + n5 % (8176 - (16 + (1 + n1 % 32) + n2 % 513) + 1)
def mWf : G7 := fun _ n1 n2 _ _ _ n6 => 2 * (16 + (1 + n1 % 32) + n2 % 513 + 16) + n6 % (65536 - 2 * (16 + (1 + n1 % 32) + n2 % 513 + 16) + 1)
theorem emod_in {n m : Int} (h : 0 < m) : 0 ≤ n % m ∧ n % m < m := ⟨Int.emod_nonneg _ (by omega), Int.emod_lt_of_pos _ h⟩
theorem made_ok (n0 n1 n2 n3 n4 n5 n6 : Int) : cfgOk (mSf n0 n1 n2 n3 n4 n5 n6) (mZf n0 n1 n2 n3 n4 n5 n6) (mRf n0 n1 n2 n3 n4 n5 n6) (mWf n0 n1 n2 n3 n4 n5 n6) (mKf n0 n1 n2 n3 n4 n5 n6) (mVf n0 n1 n2 n3 n4 n5 n6) (mPf n0 n1 n2 n3 n4 n5 n6) := by
  have h0 := emod_in (n := n0) (m := 7) (by omega)
  have h1 := emod_in (n := n1) (m := 32) (by omega)
  have h2 := emod_in (n := n2) (m := 513) (by omega)
  have h3 := emod_in (n := n3) (m := 2) (by omega)
  unfold mSf mZf mRf mWf mKf mVf mPf cfgOk
  generalize n0 % 7 = A at *
  generalize n1 % 32 = B at *
  generalize n2 % 513 = C at *
  generalize n3 % 2 = D at *
  have h4 := emod_in (n := n4) (m := 32 - (2 + A) - 1) (by omega)
  have h5 := emod_in (n := n5) (m := 8176 - (16 + (1 + B) + C) + 1) (by omega)
  have h6 := emod_in (n := n6) (m := 65536 - 2 * (16 + (1 + B) + C + 16) + 1) (by omega)
  omega
theorem made_ends (n0 n1 n2 n3 n4 n5 n6 : Int) (g0 : u32J n0) (g1 : u32J n1) (g2 : u32J n2) (g3 : u32J n3) (g4 : u32J n4) (g5 : u32J n5) (g6 : u32J n6) :
    EndsIn X0 f_drumlinlaw17_Made (fun v' _ => v' = cfgV (mSf n0 n1 n2 n3 n4 n5 n6) (mZf n0 n1 n2 n3 n4 n5 n6) (mRf n0 n1 n2 n3 n4 n5 n6) (mWf n0 n1 n2 n3 n4 n5 n6) (mKf n0 n1 n2 n3 n4 n5 n6) (mVf n0 n1 n2 n3 n4 n5 n6) (mPf n0 n1 n2 n3 n4 n5 n6)) (st f_drumlinlaw17_Made 70 [nV n0 n1 n2 n3 n4 n5 n6] hp0) := by
  refine VC_ok (ids := []) (Q := fun v' _ => v' = cfgV _ _ _ _ _ _ _) 3000 _ ?_
  rw [vc_made]
  have h0 := emod_in (n := n0) (m := 7) (by omega)
  have h1 := emod_in (n := n1) (m := 32) (by omega)
  have h2 := emod_in (n := n2) (m := 513) (by omega)
  have h3 := emod_in (n := n3) (m := 2) (by omega)
  unfold u32J at *
  unfold mSf mZf mRf mWf mKf mVf mPf
  rw [Int.tmod_eq_emod_of_nonneg g0.1, Int.tmod_eq_emod_of_nonneg g1.1, Int.tmod_eq_emod_of_nonneg g2.1, Int.tmod_eq_emod_of_nonneg g3.1]
  generalize n0 % 7 = A at *
  generalize n1 % 32 = B at *
  generalize n2 % 513 = C at *
  generalize n3 % 2 = D at *
  rw [wrap64 (x := A) (by omega) (by omega), wrap64 (x := 2 + A) (by omega) (by omega), wrap64 (x := 32 - (2 + A)) (by omega) (by omega), wrap64 (x := 32 - (2 + A) - 1) (by omega) (by omega),
    wrap64 (x := B) (by omega) (by omega), wrap64 (x := 1 + B) (by omega) (by omega), wrap64 (x := 16 + (1 + B)) (by omega) (by omega), wrap64 (x := C) (by omega) (by omega),
    wrap64 (x := 16 + (1 + B) + C) (by omega) (by omega), wrap64 (x := 8176 - (16 + (1 + B) + C)) (by omega) (by omega), wrap64 (x := 8176 - (16 + (1 + B) + C) + 1) (by omega) (by omega),
    wrap64 (x := 16 + (1 + B) + C + 16) (by omega) (by omega), wrap64 (x := 2 * (16 + (1 + B) + C + 16)) (by omega) (by omega), wrap64 (x := 65536 - 2 * (16 + (1 + B) + C + 16)) (by omega) (by omega),
    wrap64 (x := 65536 - 2 * (16 + (1 + B) + C + 16) + 1) (by omega) (by omega), wrap64 (x := D) (by omega) (by omega), wrap64 (x := 1 + D) (by omega) (by omega),
    wrap64 (x := n4) (by omega) (by omega), wrap64 (x := n5) (by omega) (by omega), wrap64 (x := n6) (by omega) (by omega),
    Int.tmod_eq_emod_of_nonneg g4.1, Int.tmod_eq_emod_of_nonneg g5.1, Int.tmod_eq_emod_of_nonneg g6.1]
  have h4 := emod_in (n := n4) (m := 32 - (2 + A) - 1) (by omega)
  have h5 := emod_in (n := n5) (m := 8176 - (16 + (1 + B) + C) + 1) (by omega)
  have h6 := emod_in (n := n6) (m := 65536 - 2 * (16 + (1 + B) + C + 16) + 1) (by omega)
  refine bif_decide (fun _ => ?_) (fun h => by omega)
  refine bif_decide (fun _ => ?_) (fun h => by omega)
  refine bif_decide (fun _ => ?_) (fun h => by omega)
  show _ = cfgV _ _ _ _ _ _ _
  generalize n4 % (32 - (2 + A) - 1) = E4 at *
  generalize n5 % (8176 - (16 + (1 + B) + C) + 1) = E5 at *
  generalize n6 % (65536 - 2 * (16 + (1 + B) + C + 16) + 1) = E6 at *
  rw [wrap64 (x := 2 + A + 2) (by omega) (by omega), wrap64 (x := 2 + A + 2 + E4) (by omega) (by omega), wrap64 (x := 16 + (16 + (1 + B) + C)) (by omega) (by omega), wrap64 (x := 16 + (16 + (1 + B) + C) + E5) (by omega) (by omega),
    wrap64 (x := 2 * (16 + (1 + B) + C + 16) + E6) (by omega) (by omega)]
  rfl
noncomputable def qMade : PlainF where
  ok := fun args => match args with
    | [.agg ⟨[.int .u32 n0, .int .u32 n1, .int .u32 n2, .int .u32 n3, .int .u32 n4, .int .u32 n5, .int .u32 n6]⟩] => u32J n0 ∧ u32J n1 ∧ u32J n2 ∧ u32J n3 ∧ u32J n4 ∧ u32J n5 ∧ u32J n6
    | _ => False
  v := fun args => match args with
    | [.agg ⟨[.int .u32 n0, .int .u32 n1, .int .u32 n2, .int .u32 n3, .int .u32 n4, .int .u32 n5, .int .u32 n6]⟩] => cfgV (mSf n0 n1 n2 n3 n4 n5 n6) (mZf n0 n1 n2 n3 n4 n5 n6) (mRf n0 n1 n2 n3 n4 n5 n6) (mWf n0 n1 n2 n3 n4 n5 n6) (mKf n0 n1 n2 n3 n4 n5 n6) (mVf n0 n1 n2 n3 n4 n5 n6) (mPf n0 n1 n2 n3 n4 n5 n6)
    | _ => junk
theorem iok_made : IOk Tryz.prog tabLaid f_drumlinlaw17_Made qMade.F := by
  refine iok_plain (fs := []) (AllOk.nil _ _) (n := 70) (by kernel_rfl) fun args h => ?_
  unfold qMade at h
  simp only at h
  split at h
  · rename_i n0 n1 n2 n3 n4 n5 n6
    obtain ⟨g0, g1, g2, g3, g4, g5, g6⟩ := h
    exact ⟨rfl, by simp, rfl, (made_ends n0 n1 n2 n3 n4 n5 n6 g0 g1 g2 g3 g4 g5 g6).toN⟩
  · exact h.elim
end Go.Ideal
