/-
  Part of the proof: the machine that runs a program by fixed orders, and that each of its runs is a run of the model; or a run of it in parts. No conditions.
-/
import Derived.Test.YtbojbpalkegahaaGreatDoorC42oi
import Derived.Test.YtbojbpalkegahaaGreatDoorIdFoot
import Derived.Test.YtbojbpalkegahaaGreatDoorProg
set_option maxRecDepth 1000000
namespace Go.Ideal
open Go.Proofs
theorem tmod8 {x : Int} (h : isB x) : 0 ≤ Int.tmod x 8 ∧ Int.tmod x 8 ≤ 7 := by
  obtain ⟨h1, _⟩ := h
  rw [Int.tmod_eq_emod_of_nonneg h1]
  have := Int.emod_nonneg x (show (8 : Int) ≠ 0 by decide)
  have := Int.emod_lt_of_pos x (show (0 : Int) < 8 by decide)
  omega
noncomputable def m0 (s : Int) : MSt := ⟨cfgS s, 42 * s, [], [], 0, [], 0, false⟩
noncomputable def knB (s : Int) : List Value := (knC (cfgS s) 28 29 0).take 8 ++ [.slice (some ⟨29, 0, none⟩) 1 1]
theorem beg_wrap {slots : Int} (h : isB slots) : IntKind.wrap IntKind.i64 (4 + IntKind.wrap IntKind.i64 (Int.tmod slots 8)) = 4 + Int.tmod slots 8 := by
  obtain ⟨h1, h2⟩ := tmod8 h
  rw [wrap64 (x := Int.tmod slots 8) (by omega) (by omega), wrap64 (by omega) (by omega)]
theorem beg_lim {s : Int} (h0 : 0 ≤ s) (h7 : s ≤ 7) : IntKind.wrap IntKind.i64 (Int.tdiv (IntKind.wrap IntKind.i64 (IntKind.wrap IntKind.i64 (IntKind.wrap IntKind.i64 (4 + s - 2) - 2) * 84)) 2) = 42 * s := lim_eq h0 h7
theorem beg_run {slots : Int} (h : isB slots) : EndsN XM 9 f_drumlinlaw42_begin (fun v H => v = ptb 30 ∧ [H.get 26, H.get 27, H.get 28, H.get 29, H.get 30] = [some (tbP []), some (tbP []), some (.cells (mCells (m0 (Int.tmod slots 8)) 26 27 (.slice none 0 0)) 0 false), some (.cells [.slice none 0 0] 1 false), some (.cells (knB (Int.tmod slots 8)) 0 false)])
    (st f_drumlinlaw42_begin 28 [.int .u8 slots] ⟨.leaf, 9⟩) := by
  obtain ⟨h1, h2⟩ := tmod8 h
  have hw := beg_wrap h
  have hl := beg_lim h1 h2
  refine (EndsIn.toN (VCp_ok pfM_ok (ids := [26, 27, 28, 29, 30]) (Q := fun v os => v = ptb 30 ∧ ∃ x, os = [some (tbP []), some (tbP []), some (.cells (mCells (m0 (Int.tmod slots 8)) 26 27 (.slice none 0 0)) 0 false), some (.cells [.slice none 0 0] 1 false), some (.cells (knB (Int.tmod slots 8)) 0 false), x]) 3000 _ ?_)).mono ?_
  · rw [vc_beg, hw, hl]
    repeat' first
      | refine And.intro rfl ?_
      | refine bif_decide (fun h => absurd h (by omega)) (fun _ => ?_)
    exact ⟨_, rfl⟩
  · rintro v H ⟨rfl, x, hh⟩
    have hh : [H.get 26, H.get 27, H.get 28, H.get 29, H.get 30, H.get 30] = _ := hh
    refine ⟨rfl, ?_⟩
    simp only [List.cons.injEq, and_true] at hh ⊢
    exact ⟨hh.1, hh.2.1, hh.2.2.1, hh.2.2.2.1, hh.2.2.2.2.1⟩
noncomputable def begG (args : List Value) (objs : List IObj) : GT :=
  match args, objs with
  | [.int .u8 slots], [] => .ask (isB slots) (.ret ⟨.pointer (some ⟨9, 0, none⟩), [], [.cells (knC (cfgS (Int.tmod slots 8)) 10 11 (0 + 1)) 0 false, .abs (.pack (.model (m0 (Int.tmod slots 8)))) false, .abs (.pack (.maps 0 [])) false]⟩)
  | _, _ => .fail
theorem inv0 {s : Int} (h0 : 0 ≤ s) (h7 : s ≤ 7) : KInv (cfgS s) (m0 s) 0 [] 0 :=
  ⟨⟨s, h0, h7, rfl, rfl, rfl⟩, rfl, List.Pairwise.nil, rfl, rfl, rfl, rfl, Nat.le_refl _, Nat.le_refl _, Nat.le_refl _, (fun x hx => by cases hx), by decide⟩
theorem iok_beg : IOk Tryz.prog tab42 f_drumlinlaw42_begin (footF tab42 9 [] begG) := by
  refine iok_footD allM (by kernel_rfl) (n := 28) (by kernel_rfl) (by kernel_rfl) fun argsc objs x hx hro => ?_
  unfold begG at hx
  split at hx
  · rename_i slots
    simp only [GT.run] at hx
    split at hx
    · rename_i hb
      cases hx
      refine ⟨by simp, ?_⟩
      show EndsD XM 9 (fun b => 9 ≤ b ∧ b < 9) f_drumlinlaw42_begin _ (st f_drumlinlaw42_begin 28 [.int .u8 slots] ⟨.leaf, 9⟩)
      generalize hs : Int.tmod slots 8 = s
      refine EndsD.shut (Q := fun v H => v = ptb 30 ∧ ∃ z1 z2, 100 ≤ z1 ∧ 100 ≤ z2 ∧ z1 ≠ z2 ∧ H.get 26 = some (tbP []) ∧ H.get 27 = some (tbP []) ∧ H.get 28 = some (.cells (mCells (m0 s) 26 27 (.slice (some ⟨z1, 0, some 0⟩) 0 capU)) 0 false) ∧ H.get z1 = some (.vec kUp [] false) ∧
        H.get 29 = some (.vec [.tok] (kRow 0 z2 0) false) ∧ H.get z2 = some (.vec kSS [] false) ∧ H.get 30 = some (.cells (knC (cfgS s) 28 29 (0 + 1)) 0 false)) ((beg_run hb).toD.tell ?_) ?_
      · rintro v H ⟨rfl, hh⟩
        rw [hs] at hh
        simp only [List.cons.injEq, and_true] at hh
        obtain ⟨g26, g27, g28, g29, g30⟩ := hh
        have n1 := H.voidName_le
        have e1 : H.voidName = max H.next 100 := rfl
        generalize hH1 : (H.voidNew kUp).put 28 (.cells (mCells (m0 s) 26 27 (.slice (some ⟨H.voidName, 0, some 0⟩) 0 capU)) 0 false) = H1
        have e2 : H1.next = max H.next 100 + 1 := by rw [← hH1]; rfl
        have n2 := H1.voidName_le
        have e3 : H1.voidName = max H1.next 100 := rfl
        have hne : H.voidName ≠ H1.voidName := by omega
        have o1 : ∀ y, y < 100 → y ≠ 28 → H1.get y = H.get y := fun y hy h28 => by rw [← hH1, IHeap.get_put, if_neg h28, IHeap.voidNew_get, if_neg (by omega)]
        generalize hH2 : (H1.voidNew kSS).put 29 (.cells ([] ++ .slice (some ⟨H1.voidName, 0, some 0⟩) 0 capU :: []) 1 false) = H2
        have o2 : ∀ y, y ≠ H1.voidName → y ≠ 29 → H2.get y = H1.get y := fun y hy h29 => by rw [← hH2, IHeap.get_put, if_neg h29, IHeap.voidNew_get, if_neg hy]
        refine ⟨_, (H2.put 29 (.vec [.tok] [Value.slice (some ⟨H1.voidName, 0, some 0⟩) 0 capU] false)).put 30 (.cells ((knC (cfgS s) 28 29 0).take 8 ++ .slice (some ⟨29, 0, some 0⟩) 1 capU :: []) 0 false), fun base W0 μ W v' _ hv hH => ?_, rfl, H.voidName, H1.voidName, n1, n2, hne, ?_, ?_, ?_, ?_, ?_, ?_, ?_⟩
        · have hT := ptr_dom hv
          obtain ⟨μ2, a1, a2⟩ := hH.voidCell (k := kUp) (pre := (mCells (m0 s) 26 27 (.slice none 0 0)).take 11) (post := (mCells (m0 s) 26 27 (.slice none 0 0)).drop 12) hT (fun _ => noRoom_nil) g28 (by decide)
          have a3 : HRel base W0 μ2 H1 W := by rw [← hH1]; exact a2
          obtain ⟨T, hT⟩ := hT
          obtain ⟨μ3, b1, b2⟩ := a3.voidCell (k := kSS) (b := 29) (pre := []) (post := []) (e := 1) (ro := false) ⟨T, a1 _ T hT⟩ (fun _ => noRoom_nil) (by rw [o1 29 (by decide) (by decide)]; exact g29) (by decide)
          rw [hH2] at b2
          have b3 := b2.revec (k := [.tok]) (l := [Value.slice (some ⟨H1.voidName, 0, some 0⟩) 0 capU]) (ro := false) (b := 29) (by rw [encL_tok, ← hH2, IHeap.get_put, if_pos rfl]; rfl)
          refine ⟨μ3, Inj.le_trans a1 b1, b3.rowCellX (n := 29) (len := 1) (cap := 1) (l := [Value.slice (some ⟨H1.voidName, 0, some 0⟩) 0 capU]) (ro2 := false) ?_ (by rw [IHeap.get_put, if_pos rfl]) (by decide) (by decide) (Nat.le_refl 1) (by decide), (hv.mono a1).mono b1⟩
          rw [IHeap.get_put, if_neg (by decide), o2 30 (by omega) (by decide), o1 30 (by decide) (by decide)]; exact g30
        · rw [IHeap.get_put, if_neg (by decide), IHeap.get_put, if_neg (by decide), o2 26 (by omega) (by decide), o1 26 (by decide) (by decide)]; exact g26
        · rw [IHeap.get_put, if_neg (by decide), IHeap.get_put, if_neg (by decide), o2 27 (by omega) (by decide), o1 27 (by decide) (by decide)]; exact g27
        · rw [IHeap.get_put, if_neg (by decide), IHeap.get_put, if_neg (by decide), o2 28 (by omega) (by decide), ← hH1, IHeap.get_put, if_pos rfl]
        · rw [IHeap.get_put, if_neg (by omega), IHeap.get_put, if_neg (by omega), o2 _ hne (by omega), ← hH1, IHeap.get_put, if_neg (by omega), IHeap.voidNew_get, if_pos rfl]
        · rw [IHeap.get_put, if_neg (by decide), IHeap.get_put, if_pos rfl]; rfl
        · rw [IHeap.get_put, if_neg (by omega), IHeap.get_put, if_neg (by omega), ← hH2, IHeap.get_put, if_neg (by omega), IHeap.voidNew_get, if_pos rfl]
        · rw [IHeap.get_put, if_pos rfl]; rfl
      · rintro v H ⟨rfl, z1, z2, n1, n2, hne, g26, g27, g28, gz1, g29, gz2, g30⟩
        have hnd : [28, 26, 27, z1].Nodup := by
          simp only [List.nodup_cons, List.mem_cons, List.not_mem_nil, or_false, not_or, List.nodup_nil, and_true, not_false_eq_true]
          omega
        have s1 := shutH_ok (s := .model (m0 s)) (bs := [28, 26, 27, z1]) (H := H) hnd
        generalize hH2 : shutH (.model (m0 s)) [28, 26, 27, z1] H = H2 at s1
        have old : ∀ y, y ∉ [28, 26, 27, z1] → H2.get y = H.get y := fun y hy => s1.old y hy
        have k30 : H2.get 30 = some (.cells (knC (cfgS s) 28 29 (0 + 1)) 0 false) := by rw [old 30 (by simp; omega)]; exact g30
        have k29 : H2.get 29 = some (.vec [.tok] (kRow 0 z2 0) false) := by rw [old 29 (by simp; omega)]; exact g29
        have kz2 : H2.get z2 = some (.vec kSS [] false) := by rw [old z2 (by simp; omega)]; exact gz2
        have k28 : H2.get 28 = some (.abs (.pack (.model (m0 s))) false) := s1.root 28 rfl
        have hrs : ∀ b ∈ [30], b ∈ refsN 4 (ptb 30) ∨ (9 ≤ b ∧ b < 9 + ([] : List IObj).length) := fun b hb => by rw [List.mem_singleton] at hb; subst hb; exact .inl (by simp [refsN, ptb])
        have hR1 : ∀ x ∈ [28, 26, 27, z1], x ∈ reach2 H 0 200 [30] [] := by
          intro x hx
          rw [reach_one g30 rfl]
          show x ∈ reach2 H 0 199 [28, 29] [30]
          rw [reach_one g28 rfl]
          show x ∈ reach2 H 0 198 [26, 27, z1, 29] [30, 28]
          rw [reach_one g26 rfl]
          show x ∈ reach2 H 0 197 [27, z1, 29] [30, 28, 26]
          rw [reach_one g27 rfl]
          show x ∈ reach2 H 0 196 [z1, 29] [30, 28, 26, 27]
          rw [reach_one gz1 (by simp [beqF (show z1 ≠ 30 by omega), beqF (show z1 ≠ 28 by omega), beqF (show z1 ≠ 26 by omega), beqF (show z1 ≠ 27 by omega)])]
          refine reach2_seen H 0 _ _ _ x ?_
          simp only [List.mem_cons, List.not_mem_nil, or_false] at hx
          rcases hx with rfl | rfl | rfl | rfl <;> simp
        have hR2 : ∀ x ∈ [29, z2], x ∈ reach2 H2 0 200 [30] [] := by
          intro x hx
          rw [reach_one k30 rfl]
          show x ∈ reach2 H2 0 199 [28, 29] [30]
          rw [reach_one k28 rfl]
          show x ∈ reach2 H2 0 198 [29] [30, 28]
          rw [reach_one k29 rfl, refs_kRow]
          show x ∈ reach2 H2 0 197 [z2] [30, 28, 29]
          rw [reach_one kz2 (by simp [beqF (show z2 ≠ 30 by omega), beqF (show z2 ≠ 28 by omega), beqF (show z2 ≠ 29 by omega)])]
          refine reach2_seen H2 0 _ _ _ x ?_
          simp only [List.mem_cons, List.not_mem_nil, or_false] at hx
          rcases hx with rfl | rfl <;> simp
        have s2 := shutH_ok (s := .maps 0 []) (bs := [29, z2]) (H := H2) (by simp; omega)
        refine ⟨shutH (.maps 0 []) [29, z2] H2, ?_, ?_⟩
        · refine .step (.model (m0 s)) _ [28, 26, 27, z1] [30] (.model (m0 s)) (by simp) rfl hnd hrs hR1 (fun i b o hi ho => ?_) (fun o T ho => by cases ho; exact id) ?_
          · match i, hi, ho with
            | 0, hi, ho => cases hi; cases ho; exact ⟨_, g28, rfl, rfl, rfl⟩
            | 1, hi, ho => cases hi; cases ho; exact ⟨_, g26, rfl, rfl, rfl⟩
            | 2, hi, ho => cases hi; cases ho; exact ⟨_, g27, rfl, rfl, rfl⟩
            | 3, hi, ho => cases hi; cases ho; exact ⟨_, gz1, rfl, rfl, rfl⟩
            | i + 4, hi, ho => cases hi
          · rw [hH2]
            exact shut2R (s := .maps 0 []) (b := 29) (n := z2) (rs := [30]) (o := .vec [.tok] (kRow 0 1 0) false) (o1 := .vec [.tok] (kRow 0 z2 0) false) (p1 := .vec kSS [] false) (.maps 0 []) hrs (hR2 29 (by simp)) (hR2 z2 (by simp)) (by omega) k29 rfl rfl (renO_kRow rfl) kz2 rfl rfl rfl (.refl _) rfl (fun T hv => by cases hv.1)
        · refine ⟨[30, 28, 29], by decide, (fun c hc => by simp at hc; show 9 ≤ c; omega), rfl, rfl, fun j c p hj hp => ?_, fun j o hj => absurd hj (by show ¬ (j < 0); omega)⟩
          match j, hj, hp with
          | 0, hj, hp => cases hj; cases hp; exact ⟨_, rfl, by rw [s2.old 30 (by simp; omega)]; exact k30⟩
          | 1, hj, hp => cases hj; cases hp; exact ⟨_, rfl, by rw [s2.old 28 (by simp; omega)]; exact k28⟩
          | 2, hj, hp => cases hj; cases hp; exact ⟨_, rfl, s2.root 29 rfl⟩
          | j + 3, hj, hp => cases hj
    · cases hx
  · cases hx
end Go.Ideal

set_option maxRecDepth 1000000
namespace Go.Ideal
open Go.Proofs
noncomputable def vi (n : Nat) : Value := .int .i64 (.ofNat n)
noncomputable def vy (n : Nat) : Value := .int .u8 (.ofNat n)
noncomputable def vT : Value := .bool true
noncomputable def vF : Value := .bool false
noncomputable def vN : Value := .slice none 0 0
noncomputable def vs (b n c : Nat) : Value := sl b 0 n (18446744073709551616 + c)
noncomputable def vb (l : List Nat) : Value := .string (bsS l)
noncomputable def pq (f : FuncId) (l : List Nat) : Code := pcOf Tryz.prog f l
end Go.Ideal
