/-
  Part of the proof: the machine that runs a program by fixed orders, and that each of its runs is a run of the model; or a run of it in parts. No conditions.
-/
import Derived.Test.YtnonaponcjffjaaGreatDoorC45s
set_option maxRecDepth 1000000
namespace Go.Ideal
open Go.Proofs
theorem capU_eq : capU = 18446744073709551616 := by unfold capU; rfl
def rmA : G7 := fun s z r w k v p => if cfgOk s z r w k v p then z - 16 else 0
def lmA : G7 := fun s z r w k v p => if cfgOk s z r w k v p then limA s z r else 0
theorem room_ends (s z r w k v p : Int) : EndsIn (XC cfgErr) 14 (fun v' _ => v' = t2 (rmA s z r w k v p) (cfgErr s z r w k v p)) (st 14 9 [cfgV s z r w k v p] (heap0 tabLaid 20)) := by
  by_cases h : cfgOk s z r w k v p
  · refine VCp_ok (pfXC 0) (ids := []) (Q := fun v' _ => v' = t2 (rmA s z r w k v p) (cfgErr s z r w k v p)) 3000 _ ?_
    rw [vc_room0]
    have e : cfgErr s z r w k v p = 0 := if_pos h
    have e2 : rmA s z r w k v p = z - 16 := if_pos h
    refine ⟨e, ?_⟩
    unfold cfgOk at h
    show _ = t2 _ _
    rw [e, e2, wrap64 (x := z - 16) (by omega) (by omega)]
    rfl
  · refine VCp_ok (pfXC 2) (ids := []) (Q := fun v' _ => v' = t2 (rmA s z r w k v p) (cfgErr s z r w k v p)) 3000 _ ?_
    rw [vc_room2]
    refine ⟨if_neg h, ?_⟩
    show _ = t2 _ _
    unfold rmA cfgErr
    rw [if_neg h, if_neg h]
    rfl
theorem lim_ends (s z r w k v p : Int) : EndsIn (XC cfgErr) 15 (fun v' _ => v' = t2 (lmA s z r w k v p) (cfgErr s z r w k v p)) (st 15 9 [cfgV s z r w k v p] (heap0 tabLaid 20)) := by
  by_cases h : cfgOk s z r w k v p
  · refine VCp_ok (pfXC 0) (ids := []) (Q := fun v' _ => v' = t2 (lmA s z r w k v p) (cfgErr s z r w k v p)) 3000 _ ?_
    rw [vc_lim0]
    have e : cfgErr s z r w k v p = 0 := if_pos h
    have e2 : lmA s z r w k v p = limA s z r := if_pos h
    refine ⟨e, rfl, rfl, rfl, rfl, rfl, rfl, ?_⟩
    unfold cfgOk at h
    show _ = t2 _ _
    have hl := lim_bnd (s := s) (z := z) (r := r) (by omega) (by omega) (by omega) (by omega)
    rw [e, e2, wrap64 (x := s - r) (by omega) (by omega), wrap64 (x := s - r - 2) (by omega) (by omega), wrap64 (x := z - 16) (by omega) (by omega), wrap64 (x := (s - r - 2) * (z - 16)) (by omega) (by omega),
      Int.tdiv_eq_ediv_of_nonneg (by omega), wrap64 (x := (s - r - 2) * (z - 16) / 2) (by omega) (by omega)]
    rfl
  · refine VCp_ok (pfXC 2) (ids := []) (Q := fun v' _ => v' = t2 (lmA s z r w k v p) (cfgErr s z r w k v p)) 3000 _ ?_
    rw [vc_lim2]
    refine ⟨if_neg h, ?_⟩
    show _ = t2 _ _
    unfold lmA cfgErr
    rw [if_neg h, if_neg h]
    rfl
def SegInv (rm sm us sg : Int) : Prop :=
  (sg = 0 ∧ sm = 0 ∧ us = rm) ∨ (∃ q, sg = 2 * q + 1 ∧ 0 ≤ q ∧ q * (rm + 1) + us ≤ sm ∧ 1 ≤ us) ∨ ∃ q, sg = 2 * q ∧ 1 ≤ q ∧ q * (rm + 1) ≤ sm
theorem SegInv.next {rm sm us sg x : Int} (h : SegInv rm sm us sg) (hx : 1 ≤ x) (hf : us + x > rm) : SegInv rm (sm + x) x (sg + 1) := by
  rcases h with ⟨h1, h2, h3⟩ | ⟨q, h1, h2, h3, h4⟩ | ⟨q, h1, h2, h3⟩
  · exact .inr (.inl ⟨0, by omega, by omega, by omega, hx⟩)
  · refine .inr (.inr ⟨q + 1, by omega, by omega, ?_⟩)
    rw [Int.add_mul]; omega
  · exact .inr (.inl ⟨q, by omega, by omega, by omega, hx⟩)
theorem SegInv.stay {rm sm us sg x : Int} (h : SegInv rm sm us sg) (hx : 1 ≤ x) (hf : ¬ us + x > rm) : SegInv rm (sm + x) (us + x) sg := by
  rcases h with ⟨h1, h2, h3⟩ | ⟨q, h1, h2, h3, h4⟩ | ⟨q, h1, h2, h3⟩
  · omega
  · exact .inr (.inl ⟨q, h1, h2, by omega, by omega⟩)
  · exact .inr (.inr ⟨q, h1, h2, by omega⟩)
theorem SegInv.le {s z r w k v p sm us sg : Int} (hk : cfgOk s z r w k v p) (h : SegInv (z - 16) sm us sg) (h0 : 0 ≤ sm) (hl : sm ≤ limA s z r) : sg ≤ segA sm s z r w k v p := by
  have hin : segIn sm s z r w k v p := ⟨hk, h0, hl⟩
  unfold cfgOk at hk
  unfold segA
  rw [if_pos hin]
  have key : ∀ q : Int, 0 ≤ q → q * (z - 16 + 1) ≤ sm → q ≤ sm / (z - 15) := fun q h1 h2 => by
    rw [show z - 16 + 1 = z - 15 from by omega] at h2
    exact Int.le_ediv_of_mul_le (by omega) h2
  by_cases hz : sm = 0
  · rw [if_pos hz]
    rcases h with ⟨h1, _⟩ | ⟨q, h1, h2, h3, h4⟩ | ⟨q, h1, h2, h3⟩
    · omega
    · have := Int.mul_nonneg h2 (show (0 : Int) ≤ z - 16 + 1 by omega)
      omega
    · have := Int.mul_pos (show (0 : Int) < q by omega) (show (0 : Int) < z - 16 + 1 by omega)
      omega
  · rw [if_neg hz]
    have hq0 : 0 ≤ sm / (z - 15) := Int.ediv_nonneg h0 (by omega)
    rcases h with ⟨h1, _⟩ | ⟨q, h1, h2, h3, h4⟩ | ⟨q, h1, h2, h3⟩
    · omega
    · have := key q h2 (by omega)
      omega
    · have := key q (by omega) h3
      omega
theorem seg_other {s z r w k v p c : Int} (hk : cfgOk s z r w k v p) (h0 : 0 ≤ c) (hl : c ≤ limA s z r) : segA c s z r w k v p ≤ s - r - 2 ∧ (segA c s z r w k v p = 0 ↔ c = 0) := by
  have hin : segIn c s z r w k v p := ⟨hk, h0, hl⟩
  unfold cfgOk at hk
  unfold segA
  rw [if_pos hin]
  by_cases hz : c = 0
  · rw [if_pos hz]; omega
  · rw [if_neg hz]
    have hq0 : 0 ≤ c / (z - 15) := Int.ediv_nonneg h0 (by omega)
    refine ⟨?_, by omega⟩
    have h1 := Int.ediv_mul_le c (show z - 15 ≠ 0 by omega)
    unfold limA at hl
    have h2 : c * 2 ≤ (s - r - 2) * (z - 16) := by omega
    generalize c / (z - 15) = q at *
    generalize s - r - 2 = n at *
    -- 2 q (room + 1) ≤ 2 c ≤ n room
    by_cases h : 2 * q < n
    · omega
    · exfalso
      have h : n ≤ 2 * q := by omega
      have h3 : n * (z - 15) ≤ 2 * q * (z - 15) := Int.mul_le_mul_of_nonneg_right h (by omega)
      have h4 : 2 * q * (z - 15) = 2 * (q * (z - 15)) := Int.mul_assoc _ _ _
      have h5 : n * (z - 15) = n * (z - 16) + n := by rw [show z - 15 = (z - 16) + 1 from by omega, Int.mul_add, Int.mul_one]
      have hn : n ≤ 0 := by omega
      have h6 : n * (z - 16) ≤ 0 := Int.mul_nonpos_of_nonpos_of_nonneg hn (by omega)
      omega
noncomputable abbrev XSe : Ctx := XSg mSf mZf mRf mWf mKf mVf mPf rmA cfgErr lmA segA segE
theorem allS (hw : KnownOk Tryz.prog tabLaid wrkK) : AllOk Tryz.prog tabLaid [(12, knownF wrkK), (13, fMd), (14, f7 fun s z r w k v p => t2 (rmA s z r w k v p) (cfgErr s z r w k v p)),
  (15, f7 fun s z r w k v p => t2 (lmA s z r w k v p) (cfgErr s z r w k v p)), (10, f8 fun s z r w k v p x => t2 (segA x s z r w k v p) (segE x s z r w k v p))] :=
  AllOk.cons (iok_known hw) (AllOk.cons iok_made (AllOk.cons (iok_7 (n := 9) (by kernel_rfl) (by decide) (fun _ _ _ _ _ _ _ => rfl) room_ends)
    (AllOk.cons (iok_7 (n := 9) (by kernel_rfl) (by decide) (fun _ _ _ _ _ _ _ => rfl) lim_ends) (AllOk.cons (iok_8 (n := 18) (by kernel_rfl) (by decide) (fun _ _ _ _ _ _ _ _ => rfl) seg_ends) (AllOk.nil _ _)))))
abbrev QT : Value → List (Option IObj) → Prop := fun v' _ => v' = .bool true
theorem seg_end {s z r w k v p sm us sg x : Int} (hk : cfgOk s z r w k v p) (h : SegInv (z - 16) sm us sg) (h0 : 0 ≤ sm) (hl : sm ≤ limA s z r) (hx : u32In x) :
    (bif decide (IntKind.wrap IntKind.i64 (limA s z r + 1) ≠ 0) then
      (bif segE sm s z r w k v p == 0 then
       (bif segE (Int.tmod (IntKind.wrap IntKind.i64 x) (IntKind.wrap IntKind.i64 (limA s z r + 1))) s z r w k v p == 0 then
        (bif decide (sg ≤ segA sm s z r w k v p) then
         (bif decide (segA (Int.tmod (IntKind.wrap IntKind.i64 x) (IntKind.wrap IntKind.i64 (limA s z r + 1))) s z r w k v p ≤ IntKind.wrap IntKind.i64 (IntKind.wrap IntKind.i64 (s - r) - 2)) then
          (bif segA (Int.tmod (IntKind.wrap IntKind.i64 x) (IntKind.wrap IntKind.i64 (limA s z r + 1))) s z r w k v p == 0 then
           (bif Int.tmod (IntKind.wrap IntKind.i64 x) (IntKind.wrap IntKind.i64 (limA s z r + 1)) == 0 then (QT (.bool true) []) else (QT (.bool false) []))
          else
           (bif Int.tmod (IntKind.wrap IntKind.i64 x) (IntKind.wrap IntKind.i64 (limA s z r + 1)) == 0 then (QT (.bool false) []) else (QT (.bool true) [])))
         else (QT (.bool false) []))
        else (QT (.bool false) []))
       else (QT (.bool false) []))
      else (QT (.bool false) []))
     else False) := by
  have hk2 := hk
  unfold cfgOk at hk2
  have hb := lim_bnd (s := s) (z := z) (r := r) (by omega) (by omega) (by omega) (by omega)
  have hL : 0 ≤ limA s z r ∧ limA s z r ≤ 228928 := by unfold limA; omega
  unfold u32In at hx
  rw [wrap64 (x := limA s z r + 1) (by omega) (by omega), wrap64 (x := x) (by omega) (by omega), Int.tmod_eq_emod_of_nonneg hx.1, wrap64 (x := s - r) (by omega) (by omega), wrap64 (x := s - r - 2) (by omega) (by omega)]
  have hm := emod_in (n := x) (m := limA s z r + 1) (by omega)
  generalize x % (limA s z r + 1) = c at *
  have e1 : segE sm s z r w k v p = 0 := if_pos ⟨hk, h0, hl⟩
  have e2 : segE c s z r w k v p = 0 := if_pos ⟨hk, hm.1, by omega⟩
  have e3 := SegInv.le hk h h0 hl
  have e4 := seg_other (c := c) hk hm.1 (by omega)
  rw [e1, e2]
  refine bif_true (decide_eq_true (by omega)) (bif_true rfl (bif_true rfl (bif_true (decide_eq_true e3) (bif_true (decide_eq_true e4.1) ?_))))
  refine bif_both (fun h => bif_true ?_ rfl) (fun h => bif_false ?_ rfl)
  · have h : segA c s z r w k v p = 0 := by simpa using h
    simpa using e4.2.1 h
  · have h : ¬ segA c s z r w k v p = 0 := by simpa using h
    simpa using fun q => h (e4.2.2 q)
theorem seg_loop (s z r w k v p x : Int) (hk : cfgOk s z r w k v p) (hx : u32In x) (l : List (EK.C kU16)) (hl : ∀ y ∈ l, (0 : Int) ≤ (y : Int) ∧ (y : Int) < 65536) (m : Nat) (hm : m ≤ l.length) (hm2 : m ≤ 200) :
    ∀ (d i : Nat) (sm us sg : Int), m - i = d → i ≤ m → SegInv (z - 16) sm us sg → 0 ≤ sm → sm ≤ limA s z r → 0 ≤ us → us ≤ z - 16 → 0 ≤ sg → sg ≤ i →
      EndsN XSe 21 4 (fun v' _ => v' = .bool true) (segT l x s z r w k v p (z - 16) (limA s z r) sm us sg (.slice (some ⟨20, 0, some 0⟩) m capU) m i) := by
  have hk2 := hk
  unfold cfgOk at hk2
  have hb := lim_bnd (s := s) (z := z) (r := r) (by omega) (by omega) (by omega) (by omega)
  have hL : 0 ≤ limA s z r ∧ limA s z r ≤ 228928 := by unfold limA; omega
  intro d
  induction d with
  | zero =>
    intro i sm us sg hd hi hI h0 h1 h2 h3 h4 h5
    refine VCs_ok (pfM_ok rfl) (ids := []) (S := segS) rfl (Q := QT) (R := fun _ => False) (fun v H h => h) (fun c h => h.elim) 3000 _ ?_
    rw [vc_sg1]
    refine bif_decide (fun h => by exfalso; omega) (fun _ => ?_)
    exact seg_end hk hI h0 h1 hx
  | succ d ih =>
    intro i sm us sg hd hi hI h0 h1 h2 h3 h4 h5
    have hlt : i < l.length := by omega
    refine VCs_ok (pfM_ok rfl) (ids := []) (S := segS) rfl (Q := QT) (R := fun c => ∃ sm' us' sg', c = segT l x s z r w k v p (z - 16) (limA s z r) sm' us' sg' (.slice (some ⟨20, 0, some 0⟩) m capU) m ((i + 1 : Nat) : Int) ∧ SegInv (z - 16) sm' us' sg' ∧ 0 ≤ sm' ∧ sm' ≤ limA s z r ∧ 0 ≤ us' ∧ us' ≤ z - 16 ∧ 0 ≤ sg' ∧ sg' ≤ ((i + 1 : Nat) : Int))
      (fun v H h => h) (fun c h => by
        obtain ⟨sm', us', sg', rfl, q1, q2, q3, q4, q5, q6, q7⟩ := h
        exact ih (i + 1) sm' us' sg' (by omega) (by omega) q1 q2 q3 q4 q5 q6 q7) 3000 _ ?_
    rw [vc_sg1]
    refine bif_true (decide_eq_true (by omega)) ?_
    have e1 : (decide ((0 : Int) ≤ (i : Int)) && Nat.blt (Int.toNat (i : Int)) m) = true := by
      rw [Int.toNat_natCast]
      have : Nat.blt i m = true := Nat.ble_eq_true_of_le (by omega)
      rw [this]; simp
    have e2 : Nat.blt (0 + Int.toNat (i : Int)) l.length = true := by rw [Int.toNat_natCast, Nat.zero_add]; exact Nat.ble_eq_true_of_le hlt
    refine bif_true e1 (bif_true e2 ?_)
    have hg : List.getD l (0 + Int.toNat (i : Int)) (EK.dflt kU16) = l[i] := by
      rw [Int.toNat_natCast, Nat.zero_add, List.getD_eq_getElem?_getD, List.getElem?_eq_getElem hlt]; rfl
    have hy : (0 : Int) ≤ List.getD l (0 + Int.toNat (i : Int)) (EK.dflt kU16) ∧ (List.getD l (0 + Int.toNat (i : Int)) (EK.dflt kU16) : Int) < 65536 := by
      rw [hg]; exact hl l[i] (List.getElem_mem hlt)
    clear hg
    generalize List.getD l (0 + Int.toNat (i : Int)) (EK.dflt kU16) = y at *
    rw [wrap64 (x := v + 1) (by omega) (by omega), wrap64 (x := y) (by omega) (by omega), Int.tmod_eq_emod_of_nonneg hy.1]
    refine bif_true (decide_eq_true (by omega)) ?_
    have hM := emod_in (n := y) (m := v + 1) (by omega)
    generalize y % (v + 1) = M at *
    rw [wrap64 (x := 17 + M) (by omega) (by omega), wrap64 (x := sm + (17 + M)) (by omega) (by omega), wrap64 (x := us + (17 + M)) (by omega) (by omega), wrap64 (x := 0 + (17 + M)) (by omega) (by omega),
      wrap64 (x := sg + 1) (by omega) (by omega), wrap64 (x := (i : Int) + 1) (by omega) (by omega)]
    refine bif_decide (fun _ => ?_) (fun hs => ?_)
    · exact seg_end hk hI h0 h1 hx
    · refine bif_decide (fun hf => ?_) (fun hf => ?_)
      · refine ⟨sm + (17 + M), 17 + M, sg + 1, ?_, hI.next (by omega) hf, by omega, by omega, by omega, by omega, by omega, by omega⟩
        rw [show (0 : Int) + (17 + M) = 17 + M from by omega, ← capU_eq]; rfl
      · refine ⟨sm + (17 + M), us + (17 + M), sg, ?_, hI.stay (by omega) hf, by omega, by omega, by omega, by omega, by omega, by omega⟩
        rw [← capU_eq]; rfl
theorem toNat_rec (x : Int) : (Int.rec (motive := fun _ => Nat) (fun a => a) (fun _ => 0) x) = x.toNat := by cases x <;> rfl
theorem segments_ends (n0 n1 n2 n3 n4 n5 n6 x : Int) (g0 : u32In n0) (g1 : u32In n1) (g2 : u32In n2) (g3 : u32In n3) (g4 : u32In n4) (g5 : u32In n5) (g6 : u32In n6) (hx : u32In x) (l : List (EK.C kU16)) (hl : ∀ y ∈ l, (0 : Int) ≤ (y : Int) ∧ (y : Int) < 65536) :
    EndsN XSe 21 4 (fun v' _ => v' = .bool true) (st 4 126 [nV n0 n1 n2 n3 n4 n5 n6, .slice (some ⟨20, 0, some 0⟩) l.length capU, .int .u32 x] (putRows ⟨.leaf, 20⟩ true [⟨kU16, l⟩])) := by
  have hk := made_ok n0 n1 n2 n3 n4 n5 n6
  have e0 : cfgErr (mSf n0 n1 n2 n3 n4 n5 n6) (mZf n0 n1 n2 n3 n4 n5 n6) (mRf n0 n1 n2 n3 n4 n5 n6) (mWf n0 n1 n2 n3 n4 n5 n6) (mKf n0 n1 n2 n3 n4 n5 n6) (mVf n0 n1 n2 n3 n4 n5 n6) (mPf n0 n1 n2 n3 n4 n5 n6) = 0 := if_pos hk
  have hk2 := hk
  unfold cfgOk at hk2
  refine VCs_ok (pfM_ok rfl) (ids := []) (S := segS) rfl (Q := QT) (R := fun c => EndsN XSe 21 4 (fun v' _ => v' = .bool true) c) (fun v H h => h) (fun c h => h) 3000 _ ?_
  rw [vc_sg0]
  refine ⟨⟨g0, g1, g2, g3, g4, g5, g6⟩, ?_⟩
  rw [e0]
  refine bif_false rfl (bif_false rfl ?_)
  have hmin : (if 200 < Int.ofNat (List.length l) then (200 : Int) else Int.ofNat (List.length l)) = ((min l.length 200 : Nat) : Int) := by
    have : Int.ofNat l.length = (l.length : Int) := rfl
    rw [this]; split <;> omega
  rw [hmin]
  simp only [Int.toNat_natCast]
  refine bif_true ?_ ?_
  · have h1 : Nat.ble (min l.length 200) l.length = true := Nat.ble_eq_true_of_le (by omega)
    have h2 : Nat.ble 0 (min l.length 200) = true := Nat.ble_eq_true_of_le (by omega)
    rw [h1, h2]
    simp
  · have e1 : rmA (mSf n0 n1 n2 n3 n4 n5 n6) (mZf n0 n1 n2 n3 n4 n5 n6) (mRf n0 n1 n2 n3 n4 n5 n6) (mWf n0 n1 n2 n3 n4 n5 n6) (mKf n0 n1 n2 n3 n4 n5 n6) (mVf n0 n1 n2 n3 n4 n5 n6) (mPf n0 n1 n2 n3 n4 n5 n6) = mZf n0 n1 n2 n3 n4 n5 n6 - 16 := if_pos hk
    have e2 : lmA (mSf n0 n1 n2 n3 n4 n5 n6) (mZf n0 n1 n2 n3 n4 n5 n6) (mRf n0 n1 n2 n3 n4 n5 n6) (mWf n0 n1 n2 n3 n4 n5 n6) (mKf n0 n1 n2 n3 n4 n5 n6) (mVf n0 n1 n2 n3 n4 n5 n6) (mPf n0 n1 n2 n3 n4 n5 n6) = limA (mSf n0 n1 n2 n3 n4 n5 n6) (mZf n0 n1 n2 n3 n4 n5 n6) (mRf n0 n1 n2 n3 n4 n5 n6) := if_pos hk
    rw [e1, e2, ← capU_eq]
    have hb := lim_bnd (s := mSf n0 n1 n2 n3 n4 n5 n6) (z := mZf n0 n1 n2 n3 n4 n5 n6) (r := mRf n0 n1 n2 n3 n4 n5 n6) (by omega) (by omega) (by omega) (by omega)
    have := seg_loop _ _ _ _ _ _ _ x hk hx l hl (min l.length 200) (by omega) (by omega) (min l.length 200) 0 0 (mZf n0 n1 n2 n3 n4 n5 n6 - 16) 0 (by omega) (by omega) (.inl ⟨rfl, rfl, rfl⟩) (by omega) (by unfold limA; omega) (by omega) (by omega) (by omega) (by omega)
    exact this
theorem segments_nil (n0 n1 n2 n3 n4 n5 n6 x : Int) (g0 : u32In n0) (g1 : u32In n1) (g2 : u32In n2) (g3 : u32In n3) (g4 : u32In n4) (g5 : u32In n5) (g6 : u32In n6) (hx : u32In x) :
    EndsIn XSe 4 (fun v' _ => v' = .bool true) (st 4 126 [nV n0 n1 n2 n3 n4 n5 n6, .slice none 0 0, .int .u32 x] ⟨.leaf, 20⟩) := by
  have hk := made_ok n0 n1 n2 n3 n4 n5 n6
  have e0 : cfgErr (mSf n0 n1 n2 n3 n4 n5 n6) (mZf n0 n1 n2 n3 n4 n5 n6) (mRf n0 n1 n2 n3 n4 n5 n6) (mWf n0 n1 n2 n3 n4 n5 n6) (mKf n0 n1 n2 n3 n4 n5 n6) (mVf n0 n1 n2 n3 n4 n5 n6) (mPf n0 n1 n2 n3 n4 n5 n6) = 0 := if_pos hk
  have e2 : lmA (mSf n0 n1 n2 n3 n4 n5 n6) (mZf n0 n1 n2 n3 n4 n5 n6) (mRf n0 n1 n2 n3 n4 n5 n6) (mWf n0 n1 n2 n3 n4 n5 n6) (mKf n0 n1 n2 n3 n4 n5 n6) (mVf n0 n1 n2 n3 n4 n5 n6) (mPf n0 n1 n2 n3 n4 n5 n6) = limA (mSf n0 n1 n2 n3 n4 n5 n6) (mZf n0 n1 n2 n3 n4 n5 n6) (mRf n0 n1 n2 n3 n4 n5 n6) := if_pos hk
  have hk2 := hk
  unfold cfgOk at hk2
  have hb := lim_bnd (s := mSf n0 n1 n2 n3 n4 n5 n6) (z := mZf n0 n1 n2 n3 n4 n5 n6) (r := mRf n0 n1 n2 n3 n4 n5 n6) (by omega) (by omega) (by omega) (by omega)
  refine VCp_ok (pfM_ok rfl) (ids := []) (Q := QT) 3000 _ ?_
  rw [vc_sgn]
  refine ⟨⟨g0, g1, g2, g3, g4, g5, g6⟩, ?_⟩
  rw [e0, e2]
  refine bif_false rfl (bif_false rfl ?_)
  exact seg_end (us := mZf n0 n1 n2 n3 n4 n5 n6 - 16) hk (.inl ⟨rfl, rfl, rfl⟩) (by omega) (by unfold limA; omega) hx
end Go.Ideal
