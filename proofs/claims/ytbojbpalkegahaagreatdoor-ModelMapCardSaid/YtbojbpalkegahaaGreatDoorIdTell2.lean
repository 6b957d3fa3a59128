/-
  Part of the proof: the machine that runs a program by fixed orders, and that each of its runs is a run of the model; or a run of it in parts. No conditions.
-/
import Derived.Test.YtbojbpalkegahaaGreatDoorIdPackS
import Derived.Test.YtbojbpalkegahaaGreatDoorIdConc
import Derived.Laws.Strings
import Derived.Test.YtbojbpalkegahaaGreatDoorIdFoot
namespace Go.Ideal
theorem lrel_repl {μ ν : Inj} {a a1 : Value} (hle : μ.le ν) (h : ∀ v', VRel μ a v' → VRel ν a1 v') {post : List Value} : ∀ (pre l' : List Value), LRel μ (pre ++ a :: post) l' → LRel ν (pre ++ a1 :: post) l'
  | [], _, hl => by cases hl with | cons h1 h2 => exact .cons (h _ h1) (h2.mono hle)
  | p :: pre, _, hl => by cases hl with | cons h1 h2 => exact .cons (h1.mono hle) (lrel_repl hle h pre _ h2)
section
variable {base : Env} {W0 W : World} {μ : Inj} {H : IHeap}
theorem HRel.rowCell (h : HRel base W0 μ H W) {b n len e : Nat} {k : EK} {l : List (EK.C k)} {ro ro2 : Bool} {pre post : List Value}
    (hb : H.get b = some (.cells (pre ++ .slice (some ⟨n, 0, none⟩) len (capU + len) :: post) e ro)) (hn : H.get n = some (.vec k l ro2)) (hk0 : k.length ≠ 0 := by decide) :
    HRel base W0 μ (H.put b (.cells (pre ++ .slice (some ⟨n, 0, some 0⟩) len capU :: post) e ro)) W := by
  refine h.swap hb (fun T o' _ ho => ?_) rfl rfl rfl (fun _ _ hv => hv)
  cases ho with
  | cells _ _ _ c t lo hi he hc hr hf =>
    refine .cells T _ e ro c t lo hi he ?_ hr hf
    have hc2 := lrel_repl (a1 := .slice (some ⟨n, 0, some 0⟩) len capU) (Inj.le_refl _) (fun v' hv => flat_row (j := 0) hk0 (Nat.le_refl _) (fun T hT => h.elem hn hT) (by rw [Nat.zero_mul]; exact slice_down hv)) pre _ hc
    have e1 : (pre ++ Value.slice (some ⟨n, 0, none⟩) len (capU + len) :: post).length = (pre ++ Value.slice (some ⟨n, 0, some 0⟩) len capU :: post).length := by simp
    rw [← e1]; exact hc2
def IHeap.bump (H : IHeap) (n : Nat) : IHeap := ⟨H.m, max H.next n⟩
theorem HRel.bump (h : HRel base W0 μ H W) (n : Nat) : HRel base W0 μ (H.bump n) W :=
  ⟨h.obj, h.own, h.inj, fun b hb => h.fresh b (Nat.le_trans (Nat.le_max_left _ _) hb), h.bound, h.size, h.below, h.out, h.os, (let ⟨φ, a⟩ := h.abs; ⟨φ, a.rep, a.far⟩), h.le, h.grow⟩
noncomputable def IHeap.voidNew (H : IHeap) (k : EK) : IHeap := (H.bump 100).alloc (.vec k [] false)
def IHeap.voidName (H : IHeap) : Nat := max H.next 100
theorem IHeap.voidName_le (H : IHeap) : 100 ≤ H.voidName := Nat.le_max_right _ _
theorem IHeap.voidNew_get (H : IHeap) (k : EK) (i : Nat) : (H.voidNew k).get i = if i = H.voidName then some (.vec k [] false) else H.get i := IHeap.get_alloc _ _ _
def NoRoom (μ : Inj) (x : Value) : Prop := ∀ v', VRel μ x v' → ∃ a : Option (Nat × Nat), v' = .slice (a.map fun p => ⟨p.1, p.2, none⟩) 0 0
theorem noRoom_nil : NoRoom μ (.slice none 0 0) := fun v' hv => by cases hv; exact ⟨none, rfl⟩
theorem noRoom_zero {b o : Nat} : NoRoom μ (.slice (some ⟨b, o, none⟩) 0 0) := fun v' hv => by
  cases hv with
  | slice _ _ _ _ cap' o' T hm hc ho =>
    have : cap' = 0 := by
      rcases hc with ⟨_, hc⟩ | ⟨hc, _⟩
      · exact hc
      · have h0 : 0 < capU := by unfold capU; decide
        omega
    subst this
    exact ⟨some (T.c, o'), rfl⟩
theorem HRel.voidCell (h : HRel base W0 μ H W) {b e c : Nat} {k : EK} {ro : Bool} {x : Value} {pre post : List Value} (hc : ∃ T, μ c = some T) (hx : ∀ ν : Inj, NoRoom ν x)
    (hb : H.get b = some (.cells (pre ++ x :: post) e ro)) (hb2 : b < 100) (hk0 : k.length ≠ 0 := by decide) :
    ∃ μ2, μ.le μ2 ∧ HRel base W0 μ2 ((H.voidNew k).put b (.cells (pre ++ .slice (some ⟨H.voidName, 0, some 0⟩) 0 capU :: post) e ro)) W := by
  obtain ⟨T, hT⟩ := hc
  obtain ⟨h1, h2⟩ := (h.bump 100).voidNew hT hk0 false
  refine ⟨_, h2.le, ?_⟩
  have hb3 : (H.voidNew k).get b = some (.cells (pre ++ x :: post) e ro) := by
    rw [IHeap.voidNew_get, if_neg (by have := H.voidName_le; omega)]; exact hb
  have hs : HRel base W0 _ (H.voidNew k) W := h1
  refine hs.swap hb3 (fun T' o' _ ho => ?_) rfl rfl rfl (fun _ _ hv => hv)
  cases ho with
  | cells _ _ _ c t lo hi he hc hr hf =>
    refine .cells T' _ e ro c t lo hi he ?_ hr hf
    have hc2 := lrel_repl (a1 := .slice (some ⟨H.voidName, 0, some 0⟩) 0 capU) (Inj.le_refl _) (fun v' hv => by
      obtain ⟨a, rfl⟩ := hx _ v' hv
      exact .vnil _ 0 capU _ a (Inj.ext_same _ _ _) (.inr ⟨Nat.le_refl _, Nat.sub_self _⟩)) pre _ hc
    have e1 : (pre ++ x :: post).length = (pre ++ Value.slice (some ⟨H.voidName, 0, some 0⟩) 0 capU :: post).length := by simp
    rw [← e1]; exact hc2
theorem HRel.nilVal (h : HRel base W0 μ H W) {c : Nat} {k : EK} (hc : ∃ T, μ c = some T) (hk0 : k.length ≠ 0 := by decide) :
    ∃ μ2, μ.le μ2 ∧ HRel base W0 μ2 (H.voidNew k) W ∧ VRel μ2 (.slice (some ⟨H.voidName, 0, some 0⟩) 0 capU) (.slice none 0 0) := by
  obtain ⟨T, hT⟩ := hc
  obtain ⟨h1, h2⟩ := (h.bump 100).voidNew hT hk0 false
  exact ⟨_, h2.le, h1, .vnil _ 0 capU _ none (Inj.ext_same _ _ _) (.inr ⟨Nat.le_refl _, Nat.sub_self _⟩)⟩
theorem LRel.junks {l l' : List Value} {post : List Value} : ∀ (pre l' : List Value), LRel μ (pre ++ post) l' → LRel μ (List.replicate pre.length junk ++ post) l'
  | [], _, h => h
  | p :: pre, _, h => by cases h with | cons h1 h2 => exact .cons (.junk _) (LRel.junks (l := l) (l' := l') pre _ h2)
theorem HRel.weak (h : HRel base W0 μ H W) {b : Nat} {l : List (EK.C [.tok])} {x : Value} {ro : Bool} (hb : H.get b = some (.vec [.tok] (l ++ [x]) ro)) :
    HRel base W0 μ (H.put b (.vec [.tok] (List.replicate l.length junk ++ [x]) ro)) W := by
  refine h.swap hb (fun T o' _ ho => ?_) rfl rfl rfl (fun _ _ hv => absurd hv.1 (by simp))
  generalize hq : l ++ [x] = q at ho
  cases ho with
  | vec0 _ _ _ _ _ _ => exact absurd hq (by simp)
  | vec _ _ _ _ hc =>
    subst hq
    refine .vec T [.tok] _ ro o' ?_
    rw [encL_tok] at hc ⊢
    cases hc with
    | cells _ _ _ c t lo hi he hc hr hf =>
      refine .cells T _ _ ro c t lo hi he ?_ hr hf
      have e1 : (List.replicate l.length junk ++ [x]).length = (l ++ [x]).length := by simp
      rw [e1]; exact LRel.junks (l := []) (l' := []) _ _ hc
end
end Go.Ideal

set_option maxRecDepth 1000000
namespace Go.Ideal
open Go.Proofs
theorem ReachN.retell {X : Ctx} {N : Nat} {Φ : Cfg → Prop} {c : Cfg} {H' : IHeap} (hd : noDreg c.fr.todo = true) (hds : (c.cs.all fun f => noDreg f.todo) = true) (hn : ∀ (base : Env) (W0 : World) (μ : Inj) (W : World), HRel base W0 μ c.H W → HRel base W0 μ H' W)
    (hr : ReachN X N ⟨c.fr, c.cs, H'⟩ Φ) : ReachN X N c Φ := by
  intro base W0 hb hok hplan cs0 μ fr cs W hm
  obtain ⟨hH, hlaid, g, gs, hfr, hcs, hnd⟩ := hm
  have hcs2 := frs_thin (ks := []) (H' := H') hcs hds
  have e : c.cs.map (thinFr []) = c.cs := by
    refine (List.map_congr_left fun f _ => ?_).trans (List.map_id _)
    cases f; rfl
  rw [e] at hcs2
  exact hr base W0 hb hok hplan cs0 μ fr cs W ⟨hn base W0 μ W hH, hlaid, [], [], top_plain hfr hd, hcs2, by simp⟩
end Go.Ideal

set_option maxRecDepth 1000000
namespace Go.Ideal
open Go.Proofs
def CpEnd (l : List (EK.C kSS)) (v : Value) (H : IHeap) : Prop :=
  v = ptb 14 ∧ H.get 9 = some (tblC 10 l.length) ∧ H.get 10 = some (.vec kSS l false) ∧
    ((l = [] ∧ H.get 14 = some (.cells [.bool true, .slice none 0 0] 0 false)) ∨ (H.get 14 = some (tblC 15 l.length) ∧ H.get 15 = some (.vec kSS l false)))
theorem cp_loop {l : List (EK.C kSS)} (hn : l.length < 1000000) : ∀ (m i : Nat), l.length - i = m → i ≤ l.length → EndsN X0 10 f_ordmap_Map_Copy (CpEnd l) (cp2 l i i (l.take i)) := by
  intro m
  induction m with
  | zero =>
    intro i hm hi
    have he : i = l.length := by omega
    subst he
    refine VCt_ok (noPf_ok X0) (ids := [9, 10, 14, 15]) (S := cpS) (ks := cpK) (by kernel_rfl) (Q := fun v os => v = ptb 14 ∧ ∃ o5, os = [some (tblC 10 l.length), some (.vec kSS l false), some (tblC 15 l.length), some (.vec kSS l false), o5]) (R := fun _ => False) (fun v H h => ?_) (fun c h => h.elim) 400 _ ?_
    · obtain ⟨rfl, o5, h⟩ := h
      have h : [H.get 9, H.get 10, H.get 14, H.get 15, H.get 14] = _ := h
      simp only [List.cons.injEq, and_true] at h
      exact ⟨rfl, h.1, h.2.1, .inr ⟨h.2.2.1, h.2.2.2.1⟩⟩
    · rw [vc_cp2, List.take_length]
      refine bif_decide (fun h => absurd h (by omega)) (fun _ => ⟨rfl, _, by unfold tblC capU; rfl⟩)
  | succ m ih =>
    intro i hm hi
    have hlt : i < l.length := by omega
    refine VCt_ok (noPf_ok X0) (ids := [9, 10, 14, 15]) (S := cpS) (ks := cpK) (by kernel_rfl) (Q := fun _ _ => False) (R := fun c => c = cp2 l (i + 1 : Nat) (i + 1) (l.take (i + 1))) (fun v H h => h.elim) (fun c h => by rw [h]; exact ih (i + 1) (by omega) (by omega)) 400 _ ?_
    rw [vc_cp2]
    refine bif_decide (fun h => ?_) (fun h => absurd (show (i : Int) < (l.length : Int) by omega) h)
    refine bif_true (ca hlt) (bif_true (cb hlt) (bif_true ?_ ⟨rfl, ?_⟩))
    · rw [big32 (by omega)]
      have : Nat.ble (0 + i) (List.take i l).length = true := Nat.ble_eq_true_of_le (by rw [List.length_take]; omega)
      rw [this]; rfl
    · have e1 : IntKind.wrap .i64 ((i : Int) + 1) = ((i + 1 : Nat) : Int) := by rw [wrap64 (by omega) (by omega)]; rfl
      have e2 : List.take i (List.drop 0 (List.take i l)) ++ [((l.getD (0 + Int.toNat (i : Int)) (EK.dflt kSS)).1, (l.getD (0 + Int.toNat (i : Int)) (EK.dflt kSS)).2)] = l.take (i + 1) := by
        rw [List.drop_zero, List.take_take, Nat.min_self, Nat.zero_add, Int.toNat_natCast, List.take_succ_eq_append_getElem hlt, List.getD_eq_getElem?_getD, List.getElem?_eq_getElem hlt]; rfl
      rw [e1, e2]
theorem cp_first {l : List (EK.C kSS)} (hn : l.length < 1000000) : EndsN X0 10 f_ordmap_Map_Copy (CpEnd l) (st f_ordmap_Map_Copy 34 [p9] (putL ⟨.leaf, 9⟩ (tblL l))) := by
  refine VCt_ok (noPf_ok X0) (ids := [9, 10]) (S := cpS) (ks := cpK) (by kernel_rfl) (Q := fun _ _ => False) (R := fun c => c = cp0 l) (fun v H h => h.elim) (fun c h => ?_) 400 _ ?_
  · rw [h]
    refine VCt_ok (noPf_ok X0) (ids := [9, 10, 14]) (S := cpS) (ks := cpK) (by kernel_rfl) (Q := fun v os => l = [] ∧ v = ptb 14 ∧ ∃ o4, os = [some (tblC 10 l.length), some (.vec kSS l false), some (.cells [.bool true, .slice none 0 0] 0 false), o4])
      (R := fun c => ∃ k v, l.take 1 = [(k, v)] ∧ c = cp1 l 1 k v) (fun v H h => ?_) (fun c h => ?_) 400 _ ?_
    · obtain ⟨e, rfl, o4, h⟩ := h
      have h : [H.get 9, H.get 10, H.get 14, H.get 14] = _ := h
      simp only [List.cons.injEq, and_true] at h
      exact ⟨rfl, h.1, h.2.1, .inl ⟨e, h.2.2.1⟩⟩
    · obtain ⟨k, v, e, rfl⟩ := h
      have h1 : 1 ≤ l.length := by
        rcases Nat.eq_zero_or_pos l.length with h | h
        · rw [List.length_eq_zero_iff.1 h] at e; cases e
        · exact h
      have hl := cp_loop hn (l.length - 1) 1 rfl h1
      rw [e] at hl
      refine ReachN.retell (H' := ((cp1 l 1 k v).H.put 15 (.vec kSS [(k, v)] false)).put 14 (.cells ([.bool true] ++ .slice (some ⟨15, 0, some 0⟩) 1 capU :: []) 0 false)) (by rfl) (by rfl) (fun base W0 μ W hH => ?_) ?_
      · have g1 : (cp1 l 1 k v).H.get 15 = some (.cells (encL kSS [(k, v)]) kSS.length false) := by kernel_rfl
        have g3 : (cp1 l 1 k v).H.get 14 = some (.cells [.bool true, .slice (some ⟨15, 0, none⟩) 1 18446744073709551617] 0 false) := by kernel_rfl
        have g2 := hH.revec g1
        refine g2.rowCell (n := 15) (len := 1) (pre := [.bool true]) (post := []) (l := [(k, v)]) (ro2 := false) ?_ (by rw [IHeap.get_put, if_pos rfl])
        rw [IHeap.get_put, if_neg (by decide), g3]
        unfold capU; rfl
      · have e3 : (⟨(cp1 l 1 k v).fr, (cp1 l 1 k v).cs, ((cp1 l 1 k v).H.put 15 (.vec kSS [(k, v)] false)).put 14 (.cells ([.bool true] ++ .slice (some ⟨15, 0, some 0⟩) 1 capU :: []) 0 false)⟩ : Cfg) = cp2 l 1 1 [(k, v)] := by kernel_rfl
        rw [e3]; exact hl
    · rw [vc_cp0]
      refine bif_decide (fun h => ?_) (fun h => ?_)
      · have hp : 0 < l.length := by omega
        have hb : Nat.blt 0 l.length = true := Nat.ble_eq_true_of_le hp
        refine bif_true (by rw [hb]; rfl) (bif_true hb ⟨rfl, _, _, ?_, rfl⟩)
        cases l with
        | nil => cases hp
        | cons x l => rfl
      · have h0 : l = [] := List.length_eq_zero_iff.1 (by omega)
        exact ⟨h0, rfl, _, by unfold tblC capU; rfl⟩
  · rw [vc_cpS]
    exact bif_true (by simp) rfl
end Go.Ideal

set_option maxRecDepth 1000000
namespace Go.Ideal
open Go.Proofs
noncomputable def copyTG (args : List Value) (objs : List IObj) : GT :=
  match args, objs with
  | [.pointer (some ⟨9, 0, none⟩)], [.abs (.pack (.table l)) _] => .ask (l.length < 1000000) (.ret ⟨.pointer (some ⟨10, 0, none⟩), [some (.abs (.pack (.table l)) false)], [.abs (.pack (.table l)) false]⟩)
  | _, _ => .fail
theorem tm_copy {b : Nat} {l : List (EK.C kSS)} {H : IHeap} (hb : 10 ≤ b) (h9 : H.get 9 = some (.abs (.pack (.table l)) false)) (h : H.get b = some (.abs (.pack (.table l)) false)) :
    TMatch tab42 9 1 [true] ⟨.pointer (some ⟨10, 0, none⟩), [some (.abs (.pack (.table l)) false)], [.abs (.pack (.table l)) false]⟩ (ptb b) H := by
  refine ⟨[b], by simp, fun c hc => by simp at hc; omega, rfl, rfl, fun j c p hj hp => ?_, fun j o hj hm ho => ?_⟩
  · cases j with
    | zero => cases hj; cases hp; exact ⟨_, rfl, h⟩
    | succ j => cases j <;> cases hj
  · cases j with
    | zero => cases ho; exact ⟨_, rfl, h9⟩
    | succ j => omega
theorem iok_copyT : IOk Tryz.prog tab42 f_ordmap_Map_Copy (footF tab42 9 [true] copyTG) := by
  refine iok_footD (AllOk.nil _ _) (by kernel_rfl) (n := 34) (by kernel_rfl) (by kernel_rfl) fun argsc objs x hx hro => ?_
  unfold copyTG at hx
  split at hx
  · rename_i l ro
    simp only [GT.run] at hx
    split at hx
    · rename_i hn
      cases hx
      have hr0 : ro = false := hro 0 _ rfl rfl
      subst hr0
      refine ⟨by simp, ?_⟩
      refine EndsD.shut (Q := fun v H => (l = [] ∧ v = ptb 10 ∧ H.get 9 = some (.cells [.bool true, .slice none 0 0] 0 false) ∧ H.get 10 = some (.cells [.bool true, .slice none 0 0] 0 false)) ∨ CpEnd l v H) ?_ ?_
      · show EndsD X0 10 (fun b => 9 ≤ b ∧ b < 10) f_ordmap_Map_Copy _ (st f_ordmap_Map_Copy 34 [p9] (tbl0 l))
        refine EndsD.opened (b := 9) (s := .table l) (ro := false) ⟨by omega, by omega⟩ (by rfl) (fun ops p k h => by cases h) fun objs hr => ?_
        cases hr with
        | tableNil =>
          have hE : EndsN X0 10 f_ordmap_Map_Copy (fun v H => v = ptb 10 ∧ H.get 9 = some (.cells [.bool true, .slice none 0 0] 0 false) ∧ H.get 10 = some (.cells [.bool true, .slice none 0 0] 0 false)) (st f_ordmap_Map_Copy 34 [p9] (putL ⟨.leaf, 9⟩ tblN)) := by
            refine (EndsIn.toN (VCp_ok (noPf_ok X0) (ids := [9]) (Q := fun v os => v = ptb 10 ∧ os = [some (.cells [.bool true, .slice none 0 0] 0 false), some (.cells [.bool true, .slice none 0 0] 0 false)]) 400 _ (by rw [vc_cpN]; exact ⟨rfl, rfl⟩))).mono ?_
            rintro v H ⟨rfl, h⟩
            have h : [H.get 9, H.get 10] = _ := h
            simp only [List.cons.injEq, and_true] at h
            exact ⟨rfl, h.1, h.2⟩
          have hN : EndsD X0 10 (fun b => 9 ≤ b ∧ b < 10) f_ordmap_Map_Copy (fun v H => (([] : List (EK.C kSS)) = [] ∧ v = ptb 10 ∧ H.get 9 = some (.cells [.bool true, .slice none 0 0] 0 false) ∧ H.get 10 = some (.cells [.bool true, .slice none 0 0] 0 false)) ∨ CpEnd [] v H) (st f_ordmap_Map_Copy 34 [p9] ((tbl0 []).put 9 (.cells [.bool true, .slice none 0 0] 0 false))) := by
            rw [openN_eq]; exact hE.toD.mono fun v H h => .inl ⟨rfl, h⟩
          exact ⟨_, opened1 (H := tbl0 []) (b := 9) (ro := false) (o1 := .cells [.bool true, .slice none 0 0] 0 false) (show 9 < 10 by decide) (tbl0_top []) rfl, hN⟩
        | table l =>
          have hN : EndsD X0 10 (fun b => 9 ≤ b ∧ b < 10) f_ordmap_Map_Copy (fun v H => (l = [] ∧ v = ptb 10 ∧ H.get 9 = some (.cells [.bool true, .slice none 0 0] 0 false) ∧ H.get 10 = some (.cells [.bool true, .slice none 0 0] 0 false)) ∨ CpEnd l v H) (st f_ordmap_Map_Copy 34 [p9] (((tbl0 l).put 9 (.cells [.bool true, .slice (some ⟨10, 0, some 0⟩) l.length capU] 0 false)).alloc (.vec kSS l false))) := by
            rw [openL_eq]; exact (cp_first hn).toD.mono fun v H h => .inr h
          exact ⟨_, opened2 (H := tbl0 l) (b := 9) (ro := false) (o1 := .cells [.bool true, .slice (some ⟨10, 0, some 0⟩) l.length capU] 0 false) (p1 := .vec kSS l false) (show 9 < 10 by decide) (tbl0_top l) rfl rfl, hN⟩
      · have hD9 : ∀ v : Value, 9 ∈ refsN 4 v ∨ (9 ≤ 9 ∧ 9 < 9 + [IObj.abs (.pack (.table l)) false].length) := fun v => .inr ⟨Nat.le_refl 9, Nat.lt_succ_self 9⟩
        rintro v H (⟨rfl, rfl, h9, h10⟩ | ⟨rfl, h9, h10, h14⟩)
        · have s1 := shutH_ok (s := .table []) (bs := [9]) (H := H) (by simp)
          have k10 := s1.old 10 (by simp)
          rw [h10] at k10
          have s2 := shutH_ok (s := .table []) (bs := [10]) (H := shutH (.table []) [9] H) (by simp)
          refine ⟨shutH (.table []) [10] (shutH (.table []) [9] H), shut1 (s := .table []) (o := .cells [.bool true, .slice none 0 0] 0 false) .tableNil (hD9 _) h9 rfl rfl rfl
            (shut1 (s := .table []) (o := .cells [.bool true, .slice none 0 0] 0 false) .tableNil (.inl (by simp [refsN, ptb])) k10 rfl rfl rfl (.refl _)), tm_copy (Nat.le_refl _) ?_ (s2.root 10 rfl)⟩
          rw [s2.old 9 (by simp)]; exact s1.root 9 rfl
        · have s1 := shutH_ok (s := .table l) (bs := [9, 10]) (H := H) (by simp)
          have k14 := s1.old 14 (by simp)
          have k15 := s1.old 15 (by simp)
          rcases h14 with ⟨e, h14⟩ | ⟨h14, h15⟩
          · rw [h14] at k14
            have s2 := shutH_ok (s := .table l) (bs := [14]) (H := shutH (.table l) [9, 10] H) (by simp)
            refine ⟨shutH (.table l) [14] (shutH (.table l) [9, 10] H), shut2 (s := .table l) (b := 9) (n := 10) (.table l) (hD9 _) (by decide) h9 rfl rfl rfl rfl h10 rfl rfl rfl
              (shut1 (s := .table l) (o := .cells [.bool true, .slice none 0 0] 0 false) (by rw [e]; exact .tableNil) (.inl (by simp [refsN, ptb])) k14 rfl rfl rfl (.refl _)), tm_copy (by decide) ?_ (s2.root 14 rfl)⟩
            rw [s2.old 9 (by simp)]; exact s1.root 9 rfl
          · rw [h14] at k14
            rw [h15] at k15
            have s2 := shutH_ok (s := .table l) (bs := [14, 15]) (H := shutH (.table l) [9, 10] H) (by simp)
            refine ⟨shutH (.table l) [14, 15] (shutH (.table l) [9, 10] H), shut2 (s := .table l) (b := 9) (n := 10) (.table l) (hD9 _) (by decide) h9 rfl rfl rfl rfl h10 rfl rfl rfl
              (shut2 (s := .table l) (b := 14) (n := 15) (.table l) (.inl (by simp [refsN, ptb])) (by decide) k14 rfl rfl rfl rfl k15 rfl rfl rfl (.refl _)), tm_copy (by decide) ?_ (s2.root 14 rfl)⟩
            rw [s2.old 9 (by simp)]; exact s1.root 9 rfl
    · cases hx
  · cases hx
end Go.Ideal

--CASTS
set_option maxRecDepth 1000000
namespace Go.Ideal
open Go.Proofs
abbrev kUp : EK := [.bool, .str, .str]
noncomputable def mdU (m : MSt) : List IObj := [.cells (mCells m 10 11 (.slice (some ⟨12, 0, some 0⟩) m.ups.length capU)) 0 false, .abs (.pack (.table m.base)) false, .abs (.pack (.table m.now)) false, .vec kUp m.ups false]
noncomputable def fsM : List (FuncId × IFun) := [(f_ordmap_Map_Get, footF tab42 9 [true] getQ.G), (f_ordmap_Map_Set, footF tab42 9 [true] setQ.G), (f_ordmap_Map_Delete, footF tab42 9 [true] delQ.G), (f_ordmap_Map_Len, footF tab42 9 [true] lenQ.G), (f_ordmap_Map_Copy, footF tab42 9 [true] copyTG), (f_ordmap_New, footF tab42 9 [] newTG)]
noncomputable def XM : Ctx := ctxI Tryz.prog tab42 fsM
noncomputable def pfM : Pf := fun g => bif Nat.beq g f_ordmap_Map_Get then some (footPf tab42 9 [true] getQ.G) else bif Nat.beq g f_ordmap_Map_Set then some (footPf tab42 9 [true] setQ.G) else bif Nat.beq g f_ordmap_Map_Delete then some (footPf tab42 9 [true] delQ.G) else
  bif Nat.beq g f_ordmap_Map_Len then some (footPf tab42 9 [true] lenQ.G) else bif Nat.beq g f_ordmap_Map_Copy then some (footPf tab42 9 [true] copyTG) else bif Nat.beq g f_ordmap_New then some (footPf tab42 9 [] newTG) else noPf g
end Go.Ideal

set_option maxRecDepth 1000000
namespace Go.Ideal
open Go.Proofs
def IsMdl (H : IHeap) (m : MSt) : Prop := ∃ b n x, b ≠ 9 ∧ n ≠ 9 ∧ b ≠ n ∧ x ≠ 9 ∧ x ≠ b ∧ x ≠ n ∧ H.get b = some (.abs (.pack (.table m.base)) false) ∧ H.get n = some (.abs (.pack (.table m.now)) false) ∧
  H.get 9 = some (.cells (mCells m b n (.slice (some ⟨x, 0, some 0⟩) m.ups.length capU)) 0 false) ∧ H.get x = some (.vec kUp m.ups false)
structure MdlF where
  ok : MSt → List Value → Prop
  v : MSt → List Value → Value
  nx : MSt → List Value → MSt
noncomputable def MdlF.G (q : MdlF) (args : List Value) (objs : List IObj) : GT :=
  match args, objs with
  | .pointer (some ⟨9, 0, none⟩) :: rest, [.abs (.pack (.model m)) _] => .ask (q.ok m rest) (.ret ⟨q.v m rest, [some (.abs (.pack (.model (q.nx m rest))) false)], []⟩)
  | _, _ => .fail
noncomputable def mdl0 (m : MSt) : IHeap := putL ⟨.leaf, 9⟩ [.abs (.pack (.model m)) false]
theorem mdl0_top (m : MSt) : ∀ x, 10 ≤ x → (mdl0 m).get x = none := by
  intro x hx
  unfold mdl0
  rw [putL_get]
  show (if x < 9 then _ else _) = _
  rw [if_neg (by omega), List.getElem?_eq_none (by simp; omega)]
  rfl
noncomputable def mRoot (m : MSt) (u : Value) : IObj := .cells (mCells m 10 11 u) 0 false
theorem openMU_eq (m : MSt) : allocs ((mdl0 m).put 9 (mRoot m (.slice (some ⟨12, 0, some 0⟩) m.ups.length capU))) [.abs (.pack (.table m.base)) false, .abs (.pack (.table m.now)) false, .vec kUp m.ups false] = putL ⟨.leaf, 9⟩ (mdU m) := by kernel_rfl
theorem tm_pk {v : Value} {H : IHeap} {s : Pk} (hv : flatN 6 v = true) (h : H.get 9 = some (.abs (.pack s) false)) : TMatch tab42 9 1 [true] ⟨v, [some (.abs (.pack s) false)], []⟩ v H := by
  refine ⟨[], List.nodup_nil, fun b hb => (by cases hb), rfl, ren_flat 6 v hv, fun j b o hj => (by cases hj), fun j o hj hm ho => ?_⟩
  cases j with
  | zero => cases ho; exact ⟨_, rfl, h⟩
  | succ j => omega
theorem shutMdl {D : Nat → Prop} {v : Value} {H : IHeap} {m : MSt} (hD : D 9) (h : IsMdl H m) : ∃ H2, ShutsTo D v H H2 ∧ H2.get 9 = some (.abs (.pack (.model m)) false) := by
  obtain ⟨b, n, x, hb, hn, hbn, hx, hxb, hxn, gb, gn, g9, gx⟩ := h
  have hnd : (9 :: [b, n, x]).Nodup := by simp [Ne.symm hb, Ne.symm hn, hbn, Ne.symm hx, Ne.symm hxb, Ne.symm hxn]
  refine ⟨shutH (.model m) (9 :: [b, n, x]) H, shutStar (s := .model m) (ns := [b, n, x]) (.model m) (.inr hD) rfl hnd g9 rfl rfl rfl ?_ ?_ (Nat.le_of_ble_eq_true rfl) ?_ (.refl _), (shutH_ok hnd).root 9 rfl⟩
  · intro y hy; exact hy
  · intro y hy; exact hy
  · intro i y p hy hp
    cases i with
    | zero => cases hy; cases hp; exact ⟨_, gb, rfl, rfl, rfl, rfl⟩
    | succ i => cases i with
      | zero => cases hy; cases hp; exact ⟨_, gn, rfl, rfl, rfl, rfl⟩
      | succ i => cases i with
        | zero => cases hy; cases hp; exact ⟨_, gx, rfl, rfl, rfl, rfl⟩
        | succ i => cases i <;> cases hy
theorem iok_mdlD {fs : List (FuncId × IFun)} (hfs : AllOk Tryz.prog tab42 fs) {f : FuncId} {n : Nat} (he : entry Tryz.prog f = some (n, pcOf Tryz.prog f [])) {q : MdlF}
    (hrun : ∀ m rest, q.ok m rest → rest.length + 1 ≤ n ∧ flatN 6 (q.v m rest) = true ∧
      EndsD (ctxI Tryz.prog tab42 fs) 10 (fun b => 9 ≤ b ∧ b < 10) f (fun v H => v = q.v m rest ∧ IsMdl H (q.nx m rest)) (st f n (p9 :: rest) (putL ⟨.leaf, 9⟩ (mdU m)))) : IOk Tryz.prog tab42 f (footF tab42 9 [true] q.G) := by
  refine iok_footD hfs (by kernel_rfl) he (by kernel_rfl) fun argsc objs x hx hro => ?_
  unfold MdlF.G at hx
  split at hx
  · rename_i rest m ro
    simp only [GT.run] at hx
    split at hx
    · rename_i hok
      cases hx
      have hr0 : ro = false := hro 0 _ rfl rfl
      subst hr0
      obtain ⟨g1, g2, g5⟩ := hrun m rest hok
      refine ⟨by simpa using g1, ?_⟩
      refine EndsD.shut (Q := fun v H => v = q.v m rest ∧ IsMdl H (q.nx m rest)) ?_ ?_
      · show EndsD (ctxI Tryz.prog tab42 fs) 10 (fun b => 9 ≤ b ∧ b < 10) f _ (st f n (p9 :: rest) (mdl0 m))
        refine EndsD.opened (b := 9) (s := .model m) (ro := false) ⟨by omega, by omega⟩ (by rfl) (fun ops p k h => by cases h) fun objs hr => ?_
        cases hr with
        | model =>
          have hN : EndsD (ctxI Tryz.prog tab42 fs) 10 (fun b => 9 ≤ b ∧ b < 10) f (fun v H => v = q.v m rest ∧ IsMdl H (q.nx m rest)) (st f n (p9 :: rest) (allocs ((mdl0 m).put 9 (mRoot m (.slice (some ⟨12, 0, some 0⟩) m.ups.length capU))) [.abs (.pack (.table m.base)) false, .abs (.pack (.table m.now)) false, .vec kUp m.ups false])) := by
            rw [openMU_eq]; exact g5
          refine ⟨_, openedAll (H := mdl0 m) (b := 9) (ro := false) (o1 := mRoot m (.slice (some ⟨12, 0, some 0⟩) m.ups.length capU)) (ps1 := [.abs (.pack (.table m.base)) false, .abs (.pack (.table m.now)) false, .vec kUp m.ups false]) (show 9 < 10 by decide) (mdl0_top m) rfl rfl (fun i p hp => ?_), hN⟩
          cases i with
          | zero => cases hp; exact ⟨_, rfl, rfl⟩
          | succ i => cases i with
            | zero => cases hp; exact ⟨_, rfl, rfl⟩
            | succ i => cases i with
              | zero => cases hp; exact ⟨_, rfl, rfl⟩
              | succ i => cases i <;> cases hp
      · rintro v H ⟨rfl, hT⟩
        obtain ⟨H2, k1, k2⟩ := shutMdl (D := fun b => 9 ≤ b ∧ b < 9 + [IObj.abs (.pack (.model m)) false].length) (v := q.v m rest) ⟨Nat.le_refl 9, Nat.lt_succ_self 9⟩ hT
        exact ⟨H2, k1, tm_pk g2 k2⟩
    · cases hx
  · cases hx
theorem iok_mdl {fs : List (FuncId × IFun)} (hfs : AllOk Tryz.prog tab42 fs) {f : FuncId} {n : Nat} (he : entry Tryz.prog f = some (n, pcOf Tryz.prog f [])) {q : MdlF}
    (hrun : ∀ m rest, q.ok m rest → rest.length + 1 ≤ n ∧ flatN 6 (q.v m rest) = true ∧
      EndsN (ctxI Tryz.prog tab42 fs) 10 f (fun v H => v = q.v m rest ∧ IsMdl H (q.nx m rest)) (st f n (p9 :: rest) (putL ⟨.leaf, 9⟩ (mdU m)))) : IOk Tryz.prog tab42 f (footF tab42 9 [true] q.G) :=
  iok_mdlD hfs he fun m rest h => ⟨(hrun m rest h).1, (hrun m rest h).2.1, (hrun m rest h).2.2.toD⟩
end Go.Ideal

set_option maxRecDepth 1000000
namespace Go.Ideal
open Go.Proofs
theorem pfM_ok : PfOk XM pfM := pf_cons (fun _ _ _ h => footPf_ok (by kernel_rfl) h) (pf_cons (fun _ _ _ h => footPf_ok (by kernel_rfl) h) (pf_cons (fun _ _ _ h => footPf_ok (by kernel_rfl) h) (pf_cons (fun _ _ _ h => footPf_ok (by kernel_rfl) h)
  (pf_cons (fun _ _ _ h => footPf_ok (by kernel_rfl) h) (pf_cons (fun _ _ _ h => footPf_ok (by kernel_rfl) h) (noPf_ok _))))))
theorem allM : AllOk Tryz.prog tab42 fsM := AllOk.cons iok_get (AllOk.cons iok_set (AllOk.cons iok_del (AllOk.cons iok_len (AllOk.cons iok_copyT (AllOk.cons iok_newT (AllOk.nil _ _))))))
noncomputable def tbP (l : List (ByteArray × ByteArray)) : IObj := .abs (.pack (.table l)) false
theorem tellUpsX {D : Nat → Prop} {v x : Value} {H : IHeap} {m : MSt} {r b n : Nat} (hx : ∀ ν : Inj, NoRoom ν x) (hu : m.ups = []) (hb : b ≠ r) (hn : n ≠ r) (hbn : b ≠ n) (hr1 : r < 100) (hb1 : b < 100) (hn1 : n < 100)
    (g9 : H.get r = some (.cells (mCells m b n x) 0 false)) (_gb : H.get b = some (tbP m.base)) (_gn : H.get n = some (tbP m.now)) (hD : ∃ c, D c) :
    ∃ v2 H2, (∀ (base : Env) (W0 : World) (μ : Inj) (W : World) (v' : Value), (∀ b, D b → ∃ T, μ b = some T) → VRel μ v v' → HRel base W0 μ H W → ∃ μ2, μ.le μ2 ∧ HRel base W0 μ2 H2 W ∧ VRel μ2 v2 v') ∧ v2 = v ∧
      (∃ z, 100 ≤ z ∧ (r :: [b, n, z]).Nodup ∧ H2.get r = some (.cells (mCells m b n (.slice (some ⟨z, 0, some 0⟩) m.ups.length capU)) 0 false) ∧ H2.get z = some (.vec kUp m.ups false)) ∧ ∀ y, y ≠ r → y < 100 → H2.get y = H.get y := by
  obtain ⟨c, hc⟩ := hD
  have hge := H.voidName_le
  refine ⟨v, (H.voidNew kUp).put r (.cells (mCells m b n (.slice (some ⟨H.voidName, 0, some 0⟩) 0 capU)) 0 false), fun base W0 μ W v' hT hv hH => ?_, rfl, ⟨H.voidName, hge, ?_, ?_, ?_⟩, fun y hy hy1 => ?_⟩
  · obtain ⟨μ2, k1, k2⟩ := hH.voidCell (k := kUp) (pre := (mCells m b n x).take 11) (post := (mCells m b n x).drop 12) (hT c hc) hx g9 hr1
    exact ⟨μ2, k1, k2, hv.mono k1⟩
  · simp only [List.nodup_cons, List.mem_cons, List.not_mem_nil, not_or, not_false_eq_true, and_true, List.nodup_nil]
    omega
  · rw [IHeap.get_put, if_pos rfl, hu]; rfl
  · rw [IHeap.get_put, if_neg (by omega), IHeap.voidNew_get, if_pos rfl, hu]
  · rw [IHeap.get_put, if_neg hy, IHeap.voidNew_get, if_neg (by omega)]
theorem tellUps {D : Nat → Prop} {v : Value} {H : IHeap} {m : MSt} {b n : Nat} (hu : m.ups = []) (hb : b ≠ 9) (hn : n ≠ 9) (hbn : b ≠ n) (hb1 : b < 100) (hn1 : n < 100)
    (g9 : H.get 9 = some (.cells (mCells m b n (.slice none 0 0)) 0 false)) (gb : H.get b = some (tbP m.base)) (gn : H.get n = some (tbP m.now)) (hD : D 9 := by exact ⟨Nat.le_refl 9, Nat.lt_succ_self 9⟩) :
    ∃ v2 H2, (∀ (base : Env) (W0 : World) (μ : Inj) (W : World) (v' : Value), (∀ b, D b → ∃ T, μ b = some T) → VRel μ v v' → HRel base W0 μ H W → ∃ μ2, μ.le μ2 ∧ HRel base W0 μ2 H2 W ∧ VRel μ2 v2 v') ∧ v2 = v ∧ IsMdl H2 m := by
  obtain ⟨v2, H2, k1, k2, ⟨z, z1, z2, z3, z4⟩, k3⟩ := tellUpsX (D := D) (v := v) (fun _ => noRoom_nil) hu hb hn hbn (by decide) hb1 hn1 g9 gb gn ⟨9, hD⟩
  refine ⟨v2, H2, k1, k2, b, n, z, hb, hn, hbn, by omega, by omega, by omega, ?_, ?_, z3, z4⟩
  · rw [k3 b hb hb1]; exact gb
  · rw [k3 n hn hn1]; exact gn
end Go.Ideal

set_option maxRecDepth 1000000
namespace Go.Ideal
open Go.Proofs
def recC (k v : ByteArray) : Int := IntKind.wrap .i64 (IntKind.wrap .i64 (16 + (k.size : Int)) + (v.size : Int))
noncomputable def afterV (m : MSt) (del : Bool) (key val : ByteArray) : Int :=
  let n := bif (atK m.now key).isSome then IntKind.wrap .i64 (m.cost - recC key ((atK m.now key).getD { data := #[] })) else m.cost
  bif del then n else IntKind.wrap .i64 (n + recC key val)
end Go.Ideal

--CASTS
--SUB ([SK.bool] ++ ([SK.str] ++ ([SK.str] ++ []))) => kUp
set_option maxRecDepth 1000000
namespace Go.Ideal
open Go.Proofs
theorem vc_accU (m : MSt) (del : Bool) (key val : ByteArray) (Q : Value → List (Option IObj) → Prop) : VCp XM pfM f_model_Model_accept [9, 10, 11, 17] Q 800 (st f_model_Model_accept 26 [p9, .agg ⟨[.bool del, .string key, .string val]⟩] (putL ⟨.leaf, 9⟩ (mdU m))) = (
 (TblF.ok getQ (MSt.now m) [Value.string key]) ∧
 (bif Option.isSome (atK (MSt.now m) key) then
  (((.bool (Option.isSome (atK (MSt.now m) key))) : Value) = (.bool true)) ∧
  (bif del then
   (bif del then
    (TblF.ok delQ (TblF.nx getQ (MSt.now m) [Value.string key]) [Value.string key]) ∧
    (bif true && Nat.ble (0 + List.length (MSt.ups m)) (List.length (MSt.ups m)) && bigOk 40 (List.length (MSt.ups m) + 1) then
     (((.pointer (some ⟨9, 0, none⟩)) : Value) = (.pointer (some ⟨9, 0, none⟩))) ∧
     (Q (.tuple ⟨[]⟩) [some (.cells [(.int IntKind.i64 (List.getD (MSt.cfg m) 0 0)), (.int IntKind.i64 (List.getD (MSt.cfg m) 1 0)), (.int IntKind.i64 (List.getD (MSt.cfg m) 2 0)), (.int IntKind.i64 (List.getD (MSt.cfg m) 3 0)), (.int IntKind.i64 (List.getD (MSt.cfg m) 4 0)), (.int IntKind.i64 (List.getD (MSt.cfg m) 5 0)), (.int IntKind.i64 (List.getD (MSt.cfg m) 6 0)), (.int IntKind.i64 (MSt.limit m)), (.pointer (some ⟨10, 0, none⟩)), (.pointer (some ⟨11, 0, none⟩)), (.int IntKind.i64 (IntKind.wrap IntKind.i64 (MSt.cost m - IntKind.wrap IntKind.i64 (IntKind.wrap IntKind.i64 (16 + Int.ofNat (ByteArray.size key)) + Int.ofNat (ByteArray.size (Option.getD (atK (MSt.now m) key) { data := #[] })))))), (.slice (some ⟨17, 0, (some 0)⟩) (List.length (MSt.ups m) + 1) 18446744073709551616), (.pointer none), (.int IntKind.i64 (MSt.state m)), (.bool (MSt.planned m))] 0 false), some (.abs (Abs.pack (Pk.table (MSt.base m))) false), some (.abs (Abs.pack (Pk.table (TblF.nx delQ (TblF.nx getQ (MSt.now m) [Value.string key]) [Value.string key]))) false), some (.vec kUp (List.take (List.length (MSt.ups m)) (List.drop 0 (MSt.ups m)) ++ [(del, key, val)]) false)])
    else
     False)
   else
    (TblF.ok setQ (TblF.nx getQ (MSt.now m) [Value.string key]) [Value.string key, Value.string val]) ∧
    (bif true && Nat.ble (0 + List.length (MSt.ups m)) (List.length (MSt.ups m)) && bigOk 40 (List.length (MSt.ups m) + 1) then
     (((.pointer (some ⟨9, 0, none⟩)) : Value) = (.pointer (some ⟨9, 0, none⟩))) ∧
     (Q (.tuple ⟨[]⟩) [some (.cells [(.int IntKind.i64 (List.getD (MSt.cfg m) 0 0)), (.int IntKind.i64 (List.getD (MSt.cfg m) 1 0)), (.int IntKind.i64 (List.getD (MSt.cfg m) 2 0)), (.int IntKind.i64 (List.getD (MSt.cfg m) 3 0)), (.int IntKind.i64 (List.getD (MSt.cfg m) 4 0)), (.int IntKind.i64 (List.getD (MSt.cfg m) 5 0)), (.int IntKind.i64 (List.getD (MSt.cfg m) 6 0)), (.int IntKind.i64 (MSt.limit m)), (.pointer (some ⟨10, 0, none⟩)), (.pointer (some ⟨11, 0, none⟩)), (.int IntKind.i64 (IntKind.wrap IntKind.i64 (MSt.cost m - IntKind.wrap IntKind.i64 (IntKind.wrap IntKind.i64 (16 + Int.ofNat (ByteArray.size key)) + Int.ofNat (ByteArray.size (Option.getD (atK (MSt.now m) key) { data := #[] })))))), (.slice (some ⟨17, 0, (some 0)⟩) (List.length (MSt.ups m) + 1) 18446744073709551616), (.pointer none), (.int IntKind.i64 (MSt.state m)), (.bool (MSt.planned m))] 0 false), some (.abs (Abs.pack (Pk.table (MSt.base m))) false), some (.abs (Abs.pack (Pk.table (TblF.nx setQ (TblF.nx getQ (MSt.now m) [Value.string key]) [Value.string key, Value.string val]))) false), some (.vec kUp (List.take (List.length (MSt.ups m)) (List.drop 0 (MSt.ups m)) ++ [(del, key, val)]) false)])
    else
     False))
  else
   (bif del then
    (TblF.ok delQ (TblF.nx getQ (MSt.now m) [Value.string key]) [Value.string key]) ∧
    (bif true && Nat.ble (0 + List.length (MSt.ups m)) (List.length (MSt.ups m)) && bigOk 40 (List.length (MSt.ups m) + 1) then
     (((.pointer (some ⟨9, 0, none⟩)) : Value) = (.pointer (some ⟨9, 0, none⟩))) ∧
     (Q (.tuple ⟨[]⟩) [some (.cells [(.int IntKind.i64 (List.getD (MSt.cfg m) 0 0)), (.int IntKind.i64 (List.getD (MSt.cfg m) 1 0)), (.int IntKind.i64 (List.getD (MSt.cfg m) 2 0)), (.int IntKind.i64 (List.getD (MSt.cfg m) 3 0)), (.int IntKind.i64 (List.getD (MSt.cfg m) 4 0)), (.int IntKind.i64 (List.getD (MSt.cfg m) 5 0)), (.int IntKind.i64 (List.getD (MSt.cfg m) 6 0)), (.int IntKind.i64 (MSt.limit m)), (.pointer (some ⟨10, 0, none⟩)), (.pointer (some ⟨11, 0, none⟩)), (.int IntKind.i64 (IntKind.wrap IntKind.i64 (IntKind.wrap IntKind.i64 (MSt.cost m - IntKind.wrap IntKind.i64 (IntKind.wrap IntKind.i64 (16 + Int.ofNat (ByteArray.size key)) + Int.ofNat (ByteArray.size (Option.getD (atK (MSt.now m) key) { data := #[] })))) + IntKind.wrap IntKind.i64 (IntKind.wrap IntKind.i64 (16 + Int.ofNat (ByteArray.size key)) + Int.ofNat (ByteArray.size val))))), (.slice (some ⟨17, 0, (some 0)⟩) (List.length (MSt.ups m) + 1) 18446744073709551616), (.pointer none), (.int IntKind.i64 (MSt.state m)), (.bool (MSt.planned m))] 0 false), some (.abs (Abs.pack (Pk.table (MSt.base m))) false), some (.abs (Abs.pack (Pk.table (TblF.nx delQ (TblF.nx getQ (MSt.now m) [Value.string key]) [Value.string key]))) false), some (.vec kUp (List.take (List.length (MSt.ups m)) (List.drop 0 (MSt.ups m)) ++ [(del, key, val)]) false)])
    else
     False)
   else
    (TblF.ok setQ (TblF.nx getQ (MSt.now m) [Value.string key]) [Value.string key, Value.string val]) ∧
    (bif true && Nat.ble (0 + List.length (MSt.ups m)) (List.length (MSt.ups m)) && bigOk 40 (List.length (MSt.ups m) + 1) then
     (((.pointer (some ⟨9, 0, none⟩)) : Value) = (.pointer (some ⟨9, 0, none⟩))) ∧
     (Q (.tuple ⟨[]⟩) [some (.cells [(.int IntKind.i64 (List.getD (MSt.cfg m) 0 0)), (.int IntKind.i64 (List.getD (MSt.cfg m) 1 0)), (.int IntKind.i64 (List.getD (MSt.cfg m) 2 0)), (.int IntKind.i64 (List.getD (MSt.cfg m) 3 0)), (.int IntKind.i64 (List.getD (MSt.cfg m) 4 0)), (.int IntKind.i64 (List.getD (MSt.cfg m) 5 0)), (.int IntKind.i64 (List.getD (MSt.cfg m) 6 0)), (.int IntKind.i64 (MSt.limit m)), (.pointer (some ⟨10, 0, none⟩)), (.pointer (some ⟨11, 0, none⟩)), (.int IntKind.i64 (IntKind.wrap IntKind.i64 (IntKind.wrap IntKind.i64 (MSt.cost m - IntKind.wrap IntKind.i64 (IntKind.wrap IntKind.i64 (16 + Int.ofNat (ByteArray.size key)) + Int.ofNat (ByteArray.size (Option.getD (atK (MSt.now m) key) { data := #[] })))) + IntKind.wrap IntKind.i64 (IntKind.wrap IntKind.i64 (16 + Int.ofNat (ByteArray.size key)) + Int.ofNat (ByteArray.size val))))), (.slice (some ⟨17, 0, (some 0)⟩) (List.length (MSt.ups m) + 1) 18446744073709551616), (.pointer none), (.int IntKind.i64 (MSt.state m)), (.bool (MSt.planned m))] 0 false), some (.abs (Abs.pack (Pk.table (MSt.base m))) false), some (.abs (Abs.pack (Pk.table (TblF.nx setQ (TblF.nx getQ (MSt.now m) [Value.string key]) [Value.string key, Value.string val]))) false), some (.vec kUp (List.take (List.length (MSt.ups m)) (List.drop 0 (MSt.ups m)) ++ [(del, key, val)]) false)])
    else
     False)))
 else
  (((.bool (Option.isSome (atK (MSt.now m) key))) : Value) = (.bool false)) ∧
  (bif del then
   (bif del then
    (TblF.ok delQ (TblF.nx getQ (MSt.now m) [Value.string key]) [Value.string key]) ∧
    (bif true && Nat.ble (0 + List.length (MSt.ups m)) (List.length (MSt.ups m)) && bigOk 40 (List.length (MSt.ups m) + 1) then
     (((.pointer (some ⟨9, 0, none⟩)) : Value) = (.pointer (some ⟨9, 0, none⟩))) ∧
     (Q (.tuple ⟨[]⟩) [some (.cells [(.int IntKind.i64 (List.getD (MSt.cfg m) 0 0)), (.int IntKind.i64 (List.getD (MSt.cfg m) 1 0)), (.int IntKind.i64 (List.getD (MSt.cfg m) 2 0)), (.int IntKind.i64 (List.getD (MSt.cfg m) 3 0)), (.int IntKind.i64 (List.getD (MSt.cfg m) 4 0)), (.int IntKind.i64 (List.getD (MSt.cfg m) 5 0)), (.int IntKind.i64 (List.getD (MSt.cfg m) 6 0)), (.int IntKind.i64 (MSt.limit m)), (.pointer (some ⟨10, 0, none⟩)), (.pointer (some ⟨11, 0, none⟩)), (.int IntKind.i64 (MSt.cost m)), (.slice (some ⟨17, 0, (some 0)⟩) (List.length (MSt.ups m) + 1) 18446744073709551616), (.pointer none), (.int IntKind.i64 (MSt.state m)), (.bool (MSt.planned m))] 0 false), some (.abs (Abs.pack (Pk.table (MSt.base m))) false), some (.abs (Abs.pack (Pk.table (TblF.nx delQ (TblF.nx getQ (MSt.now m) [Value.string key]) [Value.string key]))) false), some (.vec kUp (List.take (List.length (MSt.ups m)) (List.drop 0 (MSt.ups m)) ++ [(del, key, val)]) false)])
    else
     False)
   else
    (TblF.ok setQ (TblF.nx getQ (MSt.now m) [Value.string key]) [Value.string key, Value.string val]) ∧
    (bif true && Nat.ble (0 + List.length (MSt.ups m)) (List.length (MSt.ups m)) && bigOk 40 (List.length (MSt.ups m) + 1) then
     (((.pointer (some ⟨9, 0, none⟩)) : Value) = (.pointer (some ⟨9, 0, none⟩))) ∧
     (Q (.tuple ⟨[]⟩) [some (.cells [(.int IntKind.i64 (List.getD (MSt.cfg m) 0 0)), (.int IntKind.i64 (List.getD (MSt.cfg m) 1 0)), (.int IntKind.i64 (List.getD (MSt.cfg m) 2 0)), (.int IntKind.i64 (List.getD (MSt.cfg m) 3 0)), (.int IntKind.i64 (List.getD (MSt.cfg m) 4 0)), (.int IntKind.i64 (List.getD (MSt.cfg m) 5 0)), (.int IntKind.i64 (List.getD (MSt.cfg m) 6 0)), (.int IntKind.i64 (MSt.limit m)), (.pointer (some ⟨10, 0, none⟩)), (.pointer (some ⟨11, 0, none⟩)), (.int IntKind.i64 (MSt.cost m)), (.slice (some ⟨17, 0, (some 0)⟩) (List.length (MSt.ups m) + 1) 18446744073709551616), (.pointer none), (.int IntKind.i64 (MSt.state m)), (.bool (MSt.planned m))] 0 false), some (.abs (Abs.pack (Pk.table (MSt.base m))) false), some (.abs (Abs.pack (Pk.table (TblF.nx setQ (TblF.nx getQ (MSt.now m) [Value.string key]) [Value.string key, Value.string val]))) false), some (.vec kUp (List.take (List.length (MSt.ups m)) (List.drop 0 (MSt.ups m)) ++ [(del, key, val)]) false)])
    else
     False))
  else
   (bif del then
    (TblF.ok delQ (TblF.nx getQ (MSt.now m) [Value.string key]) [Value.string key]) ∧
    (bif true && Nat.ble (0 + List.length (MSt.ups m)) (List.length (MSt.ups m)) && bigOk 40 (List.length (MSt.ups m) + 1) then
     (((.pointer (some ⟨9, 0, none⟩)) : Value) = (.pointer (some ⟨9, 0, none⟩))) ∧
     (Q (.tuple ⟨[]⟩) [some (.cells [(.int IntKind.i64 (List.getD (MSt.cfg m) 0 0)), (.int IntKind.i64 (List.getD (MSt.cfg m) 1 0)), (.int IntKind.i64 (List.getD (MSt.cfg m) 2 0)), (.int IntKind.i64 (List.getD (MSt.cfg m) 3 0)), (.int IntKind.i64 (List.getD (MSt.cfg m) 4 0)), (.int IntKind.i64 (List.getD (MSt.cfg m) 5 0)), (.int IntKind.i64 (List.getD (MSt.cfg m) 6 0)), (.int IntKind.i64 (MSt.limit m)), (.pointer (some ⟨10, 0, none⟩)), (.pointer (some ⟨11, 0, none⟩)), (.int IntKind.i64 (IntKind.wrap IntKind.i64 (MSt.cost m + IntKind.wrap IntKind.i64 (IntKind.wrap IntKind.i64 (16 + Int.ofNat (ByteArray.size key)) + Int.ofNat (ByteArray.size val))))), (.slice (some ⟨17, 0, (some 0)⟩) (List.length (MSt.ups m) + 1) 18446744073709551616), (.pointer none), (.int IntKind.i64 (MSt.state m)), (.bool (MSt.planned m))] 0 false), some (.abs (Abs.pack (Pk.table (MSt.base m))) false), some (.abs (Abs.pack (Pk.table (TblF.nx delQ (TblF.nx getQ (MSt.now m) [Value.string key]) [Value.string key]))) false), some (.vec kUp (List.take (List.length (MSt.ups m)) (List.drop 0 (MSt.ups m)) ++ [(del, key, val)]) false)])
    else
     False)
   else
    (TblF.ok setQ (TblF.nx getQ (MSt.now m) [Value.string key]) [Value.string key, Value.string val]) ∧
    (bif true && Nat.ble (0 + List.length (MSt.ups m)) (List.length (MSt.ups m)) && bigOk 40 (List.length (MSt.ups m) + 1) then
     (((.pointer (some ⟨9, 0, none⟩)) : Value) = (.pointer (some ⟨9, 0, none⟩))) ∧
     (Q (.tuple ⟨[]⟩) [some (.cells [(.int IntKind.i64 (List.getD (MSt.cfg m) 0 0)), (.int IntKind.i64 (List.getD (MSt.cfg m) 1 0)), (.int IntKind.i64 (List.getD (MSt.cfg m) 2 0)), (.int IntKind.i64 (List.getD (MSt.cfg m) 3 0)), (.int IntKind.i64 (List.getD (MSt.cfg m) 4 0)), (.int IntKind.i64 (List.getD (MSt.cfg m) 5 0)), (.int IntKind.i64 (List.getD (MSt.cfg m) 6 0)), (.int IntKind.i64 (MSt.limit m)), (.pointer (some ⟨10, 0, none⟩)), (.pointer (some ⟨11, 0, none⟩)), (.int IntKind.i64 (IntKind.wrap IntKind.i64 (MSt.cost m + IntKind.wrap IntKind.i64 (IntKind.wrap IntKind.i64 (16 + Int.ofNat (ByteArray.size key)) + Int.ofNat (ByteArray.size val))))), (.slice (some ⟨17, 0, (some 0)⟩) (List.length (MSt.ups m) + 1) 18446744073709551616), (.pointer none), (.int IntKind.i64 (MSt.state m)), (.bool (MSt.planned m))] 0 false), some (.abs (Abs.pack (Pk.table (MSt.base m))) false), some (.abs (Abs.pack (Pk.table (TblF.nx setQ (TblF.nx getQ (MSt.now m) [Value.string key]) [Value.string key, Value.string val]))) false), some (.vec kUp (List.take (List.length (MSt.ups m)) (List.drop 0 (MSt.ups m)) ++ [(del, key, val)]) false)])
    else
     False))))) := by kernel_rfl
end Go.Ideal

set_option maxRecDepth 1000000
namespace Go.Ideal
open Go.Proofs
noncomputable def accM (m : MSt) (del : Bool) (key val : ByteArray) : MSt :=
  { m with cost := afterV m del key val, now := bif del then delK m.now key else setK m.now key val, ups := m.ups ++ [(del, key, val)] }
theorem big40 {n : Nat} (h : n < 1000000) : bigOk 40 (n + 1) = true := by
  unfold bigOk
  rw [Nat.ble_eq_true_of_le (by omega), Nat.ble_eq_true_of_le (by omega)]; rfl
theorem accU_run {N : Nat} (m : MSt) (del : Bool) (key val : ByteArray) (hs : sortedK m.now) (hn : m.now.length < 1000000) (hu : m.ups.length < 1000000) : EndsN XM N f_model_Model_accept (fun v H => v = .tuple ⟨[]⟩ ∧ ([9, 10, 11, 17] ++ refsN 4 v).map H.get = [some (.cells (mCells (accM m del key val) 10 11 (.slice (some ⟨17, 0, some 0⟩) (m.ups.length + 1) 18446744073709551616)) 0 false), some (tbP m.base), some (tbP (accM m del key val).now), some (.vec kUp (m.ups ++ [(del, key, val)]) false)])
    (st f_model_Model_accept 26 [p9, .agg ⟨[.bool del, .string key, .string val]⟩] (putL ⟨.leaf, 9⟩ (mdU m))) := by
  refine EndsIn.toN (VCp_ok pfM_ok (ids := [9, 10, 11, 17]) (Q := fun v os => v = .tuple ⟨[]⟩ ∧ os = [some (.cells (mCells (accM m del key val) 10 11 (.slice (some ⟨17, 0, some 0⟩) (m.ups.length + 1) 18446744073709551616)) 0 false), some (tbP m.base), some (tbP (accM m del key val).now), some (.vec kUp (m.ups ++ [(del, key, val)]) false)]) 800 _ ?_)
  rw [vc_accU]
  rw [List.drop_zero, List.take_length]
  have hb : (true && Nat.ble (0 + m.ups.length) m.ups.length && bigOk 40 (m.ups.length + 1)) = true := by
    rw [big40 hu, Nat.ble_eq_true_of_le (by omega)]; rfl
  unfold accM afterV
  refine ⟨⟨hs, by omega, key, rfl⟩, bif_both (fun h1 => ⟨by rw [h1], ?_⟩) (fun h1 => ⟨by rw [h1], ?_⟩)⟩
  all_goals
    cases del
    · exact ⟨⟨hs, hn, key, val, rfl⟩, bif_true hb ⟨rfl, rfl, by simp only [h1, cond_true, cond_false] <;> rfl⟩⟩
    · exact ⟨⟨hs, hn, key, rfl⟩, bif_true hb ⟨rfl, rfl, by simp only [h1, cond_true, cond_false] <;> rfl⟩⟩
end Go.Ideal

set_option maxRecDepth 1000000
namespace Go.Ideal
open Go.Proofs
noncomputable abbrev tabLaid : List (Nat × List Value) := tab42
noncomputable def hp0 : IHeap := ⟨.leaf, 20⟩
end Go.Ideal

set_option maxRecDepth 1000000
namespace Go.Ideal
open Go.Proofs
noncomputable def txtT (s : ByteArray) (out b : List (EK.C kU8)) (sv bv : Value) (n i : Int) : Cfg :=
  ⟨⟨f_codec_Hex, mkT [(3, sv), (10, bv), (11, .int .i64 n), (12, .int .i64 i)], 28, [.code (pcOf Tryz.prog f_codec_Hex [1, 1, 0, 1, 0, 0]), .inLoop (pcOf Tryz.prog f_codec_Hex [1, 1, 0, 1, 0, 0]), .inBlock 0, .code (pcOf Tryz.prog f_codec_Hex [1, 1, 1])], [], false, .normal, none⟩,
    [⟨f_value_Text, mkT [(0, .string s), (2, .string ⟨#[]⟩), (3, .int .i64 0), (4, .int .i64 0), (5, .string s), (6, .int .i64 0), (7, .int .i64 0), (8, .bool false), (10, .string s), (11, .bool false), (12, .string s), (13, bv)], 15, [regOf (pcOf Tryz.prog f_value_Text [1, 1, 1, 0]) 2, .code .ret], [], false, .normal, none⟩],
    putRows (putRows hp0 false [⟨kU8, out⟩]) false [⟨kU8, b⟩]⟩
def txtS : Stop := ⟨f_codec_Hex, 1, 3, 20, [], [3, 10, 11, 12]⟩
theorem vc_txt0 (s : ByteArray) (Q : Value → List (Option IObj) → Prop) (R : Cfg → Prop) : VCs X0 noPf f_value_Text [] txtS Q R 2000 (st f_value_Text 15 [.string s] hp0) = (
 (bif decide (Int.ofNat (ByteArray.size s) > 512) then
  (Q (.tuple ⟨[(.string ({ data := #[] })), (.int IntKind.i64 12)]⟩) [])
 else
  (bif ByteArray.toList s == ByteArray.toList { data := #[] } then
   (Q (.tuple ⟨[(.string ({ data := #[45] })), (.int IntKind.i64 0)]⟩) [])
  else
   (bif decide (0 ≤ IntKind.wrap IntKind.i64 (2 * Int.ofNat (ByteArray.size s))) && decide (IntKind.wrap IntKind.i64 (2 * Int.ofNat (ByteArray.size s)) ≤ 140737488355328) then
    (R (txtT s [] (strInts s) (.slice (some ⟨20, 0, (some 0)⟩) 0 18446744073709551616) (.slice (some ⟨21, 0, (some 0)⟩) (ByteArray.size s) 18446744073709551616) (Int.ofNat (ByteArray.size s)) 0))
   else
    False)))) := by kernel_rfl
theorem vc_txt1 (s : ByteArray) (out b : List (EK.C kU8)) (m : Nat) (bn : Nat) (n i : Int) (Q : Value → List (Option IObj) → Prop) (R : Cfg → Prop) : VCs X0 noPf f_value_Text [] txtS Q R 2000 (txtT s out b (.slice (some ⟨20, 0, some 0⟩) m capU) (.slice (some ⟨21, 0, some 0⟩) bn capU) n i) = (
 (bif decide (i < n) then
  (bif decide (0 ≤ i) && Nat.blt (Int.toNat i) bn then
   (bif Nat.blt (0 + Int.toNat i) (List.length b) then
    (bif decide (0 ≤ Int.fdiv (List.getD b (0 + Int.toNat i) (EK.dflt kU8)) (2 ^ min 4 (IntKind.bits IntKind.u8))) && Nat.blt (Int.toNat (Int.fdiv (List.getD b (0 + Int.toNat i) (EK.dflt kU8)) (2 ^ min 4 (IntKind.bits IntKind.u8)))) (ByteArray.size { data := #[48, 49, 50, 51, 52, 53, 54, 55, 56, 57, 97, 98, 99, 100, 101, 102] }) then
     (bif decide (0 ≤ IntKind.wrap IntKind.u8 ↑(BitVec.toNat (BitVec.ofInt (IntKind.bits IntKind.u8) (List.getD b (0 + Int.toNat i) (EK.dflt kU8)) &&& BitVec.ofInt (IntKind.bits IntKind.u8) 15))) && Nat.blt (Int.toNat (IntKind.wrap IntKind.u8 ↑(BitVec.toNat (BitVec.ofInt (IntKind.bits IntKind.u8) (List.getD b (0 + Int.toNat i) (EK.dflt kU8)) &&& BitVec.ofInt (IntKind.bits IntKind.u8) 15)))) (ByteArray.size { data := #[48, 49, 50, 51, 52, 53, 54, 55, 56, 57, 97, 98, 99, 100, 101, 102] }) then
      (bif true && Nat.ble (0 + m) (List.length out) && bigOk 1 (m + 2) then
       (R (txtT s (List.take m (List.drop 0 out) ++ [strAt { data := #[48, 49, 50, 51, 52, 53, 54, 55, 56, 57, 97, 98, 99, 100, 101, 102] } (Int.toNat (Int.fdiv (List.getD b (0 + Int.toNat i) (EK.dflt kU8)) (2 ^ min 4 (IntKind.bits IntKind.u8)))), strAt { data := #[48, 49, 50, 51, 52, 53, 54, 55, 56, 57, 97, 98, 99, 100, 101, 102] } (Int.toNat (IntKind.wrap IntKind.u8 ↑(BitVec.toNat (BitVec.ofInt (IntKind.bits IntKind.u8) (List.getD b (0 + Int.toNat i) (EK.dflt kU8)) &&& BitVec.ofInt (IntKind.bits IntKind.u8) 15))))]) b (.slice (some ⟨20, 0, (some 0)⟩) (m + 2) 18446744073709551616) (.slice (some ⟨21, 0, (some 0)⟩) bn 18446744073709551616) n (IntKind.wrap IntKind.i64 (i + 1))))
      else
       False)
     else
      False)
    else
     False)
   else
    False)
  else
   False)
 else
  (bif Nat.ble (0 + m) (List.length out) then
   (Q (.tuple ⟨[(.string (bytesV (List.take m (List.drop 0 out)))), (.int IntKind.i64 0)]⟩) [])
  else
   False))) := by kernel_rfl
end Go.Ideal

set_option maxRecDepth 100000
namespace Go.Ideal
abbrev digs : ByteArray := { data := #[48, 49, 50, 51, 52, 53, 54, 55, 56, 57, 97, 98, 99, 100, 101, 102] }
def hx2 (x : Int) : List Int := [strAt digs (Int.toNat (Int.tdiv x 16)), strAt digs (Int.toNat (Int.tmod x 16))]
def hexOf (l : List Int) : List Int := l.flatMap hx2
def inB (x : Int) : Prop := 0 ≤ x ∧ x < 256
theorem byte_all {p : Int → Prop} [∀ x, Decidable (p x)] (h : (∀ n : _root_.Fin 256, p (n.1 : Int))) {x : Int} (hx : inB x) : p x := by
  obtain ⟨h0, h1⟩ := hx
  have := h ⟨x.toNat, by omega⟩
  rwa [show ((x.toNat : Nat) : Int) = x by omega] at this
theorem hx2_shift {x : Int} (hx : inB x) : [strAt digs (Int.toNat (Int.fdiv x (2 ^ min 4 (IntKind.bits IntKind.u8)))), strAt digs (Int.toNat (IntKind.wrap IntKind.u8 ↑(BitVec.toNat (BitVec.ofInt (IntKind.bits IntKind.u8) x &&& BitVec.ofInt (IntKind.bits IntKind.u8) 15))))] = hx2 x :=
  byte_all (p := fun x => [strAt digs (Int.toNat (Int.fdiv x (2 ^ min 4 (IntKind.bits IntKind.u8)))), strAt digs (Int.toNat (IntKind.wrap IntKind.u8 ↑(BitVec.toNat (BitVec.ofInt (IntKind.bits IntKind.u8) x &&& BitVec.ofInt (IntKind.bits IntKind.u8) 15))))] = hx2 x) (by decide +kernel) hx
theorem shift_ok {x : Int} (hx : inB x) : (decide (0 ≤ Int.fdiv x (2 ^ min 4 (IntKind.bits IntKind.u8))) && Nat.blt (Int.toNat (Int.fdiv x (2 ^ min 4 (IntKind.bits IntKind.u8)))) (ByteArray.size digs)) = true :=
  byte_all (p := fun x => (decide (0 ≤ Int.fdiv x (2 ^ min 4 (IntKind.bits IntKind.u8))) && Nat.blt (Int.toNat (Int.fdiv x (2 ^ min 4 (IntKind.bits IntKind.u8)))) (ByteArray.size digs)) = true) (by decide +kernel) hx
theorem mask_ok {x : Int} (hx : inB x) : (decide (0 ≤ IntKind.wrap IntKind.u8 ↑(BitVec.toNat (BitVec.ofInt (IntKind.bits IntKind.u8) x &&& BitVec.ofInt (IntKind.bits IntKind.u8) 15))) && Nat.blt (Int.toNat (IntKind.wrap IntKind.u8 ↑(BitVec.toNat (BitVec.ofInt (IntKind.bits IntKind.u8) x &&& BitVec.ofInt (IntKind.bits IntKind.u8) 15)))) (ByteArray.size digs)) = true :=
  byte_all (p := fun x => (decide (0 ≤ IntKind.wrap IntKind.u8 ↑(BitVec.toNat (BitVec.ofInt (IntKind.bits IntKind.u8) x &&& BitVec.ofInt (IntKind.bits IntKind.u8) 15))) && Nat.blt (Int.toNat (IntKind.wrap IntKind.u8 ↑(BitVec.toNat (BitVec.ofInt (IntKind.bits IntKind.u8) x &&& BitVec.ofInt (IntKind.bits IntKind.u8) 15)))) (ByteArray.size digs)) = true) (by decide +kernel) hx
theorem strAt_in (s : ByteArray) (i : Nat) : inB (strAt s i) := by
  unfold strAt inB
  have := (s.data.toList.getD i 0).toNat_lt
  omega
theorem strInts_getD (s : ByteArray) (i : Nat) (h : i < s.size) : List.getD (strInts s) i 0 = strAt s i := by
  unfold strInts strAt
  have : i < s.data.toList.length := by simpa using h
  rw [List.getD_eq_getElem?_getD, List.getD_eq_getElem?_getD, List.getElem?_map, List.getElem?_eq_getElem this]
  rfl
theorem hexOf_length : ∀ l : List Int, (hexOf l).length = 2 * l.length
  | [] => rfl
  | x :: l => by
    have := hexOf_length l
    unfold hexOf at this ⊢
    rw [List.flatMap_cons, List.length_append, this]
    simp [hx2]; omega
theorem hexOf_take (s : ByteArray) (i : Nat) (h : i < s.size) : hexOf ((strInts s).take (i + 1)) = hexOf ((strInts s).take i) ++ hx2 (strAt s i) := by
  have hl : i < (strInts s).length := by rw [strInts_length]; exact h
  rw [List.take_succ_eq_append_getElem hl]
  unfold hexOf
  rw [List.flatMap_append, List.flatMap_singleton]
  have := strInts_getD s i h
  rw [List.getD_eq_getElem?_getD, List.getElem?_eq_getElem hl] at this
  rw [← this]; rfl
noncomputable def vstr (s : ByteArray) : ByteArray := if s.size > 512 then ⟨#[]⟩ else if s.size = 0 then ⟨#[45]⟩ else bytesV (hexOf (strInts s))
def verr (s : ByteArray) : Int := if s.size > 512 then 12 else 0
noncomputable def vtxt (s : ByteArray) : Value := .tuple ⟨[.string (vstr s), .int .i64 (verr s)]⟩
end Go.Ideal

set_option maxRecDepth 1000000
namespace Go.Ideal
open Go.Proofs
theorem capU_eq : capU = 18446744073709551616 := by kernel_rfl
theorem big_byte {m : Nat} (h : m ≤ 2000000) : bigOk 1 m = true := by
  unfold bigOk
  rw [Bool.and_eq_true]
  exact ⟨Nat.ble_eq_true_of_le (by omega), Nat.ble_eq_true_of_le (by omega)⟩
theorem at_ok {i n : Nat} (h : i < n) : (decide ((0 : Int) ≤ (i : Int)) && Nat.blt (Int.toNat (i : Int)) n) = true := by
  rw [Int.toNat_natCast, show Nat.blt i n = true from Nat.ble_eq_true_of_le h]; simp
theorem at_ok0 {i n : Nat} (h : i < n) : Nat.blt (0 + Int.toNat (i : Int)) n = true := by
  rw [Int.toNat_natCast, Nat.zero_add]; exact Nat.ble_eq_true_of_le h
noncomputable def hexV (s : ByteArray) : Value := .tuple ⟨[.string (bytesV (hexOf (strInts s))), .int .i64 0]⟩
theorem vtxt_long {s : ByteArray} (h : s.size > 512) : vtxt s = .tuple ⟨[.string ⟨#[]⟩, .int .i64 12]⟩ := by
  unfold vtxt vstr verr
  rw [if_pos h, if_pos h]
theorem vtxt_nil {s : ByteArray} (h : s.size = 0) : vtxt s = .tuple ⟨[.string ⟨#[45]⟩, .int .i64 0]⟩ := by
  unfold vtxt vstr verr
  rw [if_neg (by omega), if_pos h, if_neg (by omega)]
theorem vtxt_hex {s : ByteArray} (h : s.size ≤ 512) (h2 : s.size ≠ 0) : vtxt s = hexV s := by
  unfold vtxt vstr verr hexV
  rw [if_neg (by omega), if_neg h2, if_neg (by omega)]
theorem take_full {s : ByteArray} {i : Nat} (h : s.size ≤ i) : (strInts s).take i = strInts s := List.take_of_length_le (by rw [strInts_length]; exact h)
theorem out_len {s : ByteArray} {i : Nat} (h : i ≤ s.size) : (hexOf ((strInts s).take i)).length = 2 * i := by
  rw [hexOf_length, List.length_take, strInts_length, Nat.min_eq_left h]
theorem txt_loop (s : ByteArray) (hs : s.size ≤ 512) : ∀ (m i : Nat), s.size - i = m → i ≤ s.size →
    EndsN X0 20 f_value_Text (fun v _ => v = hexV s) (txtT s (hexOf ((strInts s).take i)) (strInts s) (.slice (some ⟨20, 0, some 0⟩) (2 * i) capU) (.slice (some ⟨21, 0, some 0⟩) s.size capU) s.size i) := by
  intro m
  induction m with
  | zero =>
    intro i hm hi
    refine VCs_ok (noPf_ok X0) (ids := []) (S := txtS) rfl (Q := fun v _ => v = hexV s) (R := fun _ => False) (fun v H h => h) (fun c h => h.elim) 2000 _ ?_
    rw [vc_txt1]
    refine bif_decide (fun h => ?_) (fun _ => ?_)
    · exfalso; have : (i : Int) < s.size := h; omega
    refine bif_true (by rw [out_len hi, Nat.zero_add]; exact Nat.ble_eq_true_of_le (Nat.le_refl _)) ?_
    show Value.tuple _ = hexV s
    unfold hexV
    rw [List.drop_zero, List.take_of_length_le (by rw [out_len hi]; exact Nat.le_refl _), take_full (by omega)]
  | succ m ih =>
    intro i hm hi
    have hlt : i < s.size := by omega
    refine VCs_ok (noPf_ok X0) (ids := []) (S := txtS) rfl (Q := fun v _ => v = hexV s)
      (R := fun c => c = txtT s (hexOf ((strInts s).take (i + 1))) (strInts s) (.slice (some ⟨20, 0, some 0⟩) (2 * (i + 1)) capU) (.slice (some ⟨21, 0, some 0⟩) s.size capU) s.size (i + 1 : Nat)) (fun v H h => h) (fun c h => by rw [h]; exact ih (i + 1) (by omega) (by omega)) 2000 _ ?_
    rw [vc_txt1]
    refine bif_decide (fun _ => ?_) (fun h => absurd (show (i : Int) < (s.size : Int) by omega) h)
    have hg : List.getD (strInts s) (0 + Int.toNat (i : Int)) (EK.dflt kU8) = strAt s i := by
      rw [Int.toNat_natCast, Nat.zero_add]; exact strInts_getD s i hlt
    rw [hg]
    have hin := strAt_in s i
    refine bif_true (at_ok hlt) (bif_true (at_ok0 (by rw [strInts_length]; exact hlt)) (bif_true (shift_ok hin) (bif_true (mask_ok hin) (bif_true ?_ ?_))))
    · rw [big_byte (by omega), out_len hi, Nat.zero_add, show Nat.ble (2 * i) (2 * i) = true from Nat.ble_eq_true_of_le (Nat.le_refl _)]; rfl
    · rw [hexOf_take s i hlt, List.drop_zero, List.take_of_length_le (by rw [out_len hi]; exact Nat.le_refl _), hx2_shift hin, wrap64 (by omega) (by omega), show 2 * (i + 1) = 2 * i + 2 by omega, show ((i + 1 : Nat) : Int) = (i : Int) + 1 by omega, capU_eq]
theorem str_empty {s : ByteArray} : (ByteArray.toList s == ByteArray.toList { data := #[] }) = decide (s.size = 0) := by
  rw [ByteArray.toList_eq, ByteArray.toList_eq]
  rcases s with ⟨⟨l⟩⟩
  cases l <;> rfl
theorem txt_ends (s : ByteArray) : EndsN X0 20 f_value_Text (fun v _ => v = vtxt s) (st f_value_Text 15 [.string s] hp0) := by
  refine VCs_ok (noPf_ok X0) (ids := []) (S := txtS) rfl (Q := fun v _ => v = vtxt s)
    (R := fun c => s.size ≤ 512 ∧ s.size ≠ 0 ∧ c = txtT s [] (strInts s) (.slice (some ⟨20, 0, some 0⟩) 0 capU) (.slice (some ⟨21, 0, some 0⟩) s.size capU) s.size 0) (fun v H h => h) (fun c h => ?_) 2000 _ ?_
  · obtain ⟨h1, h2, rfl⟩ := h
    refine EndsN.mono (txt_loop s h1 s.size 0 (by omega) (by omega)) fun v H h => ?_
    rw [h, vtxt_hex h1 h2]
  rw [vc_txt0]
  refine bif_decide (fun h => ?_) (fun h => ?_)
  · exact (vtxt_long (by have : (s.size : Int) > 512 := h; omega)).symm
  have h1 : s.size ≤ 512 := by have : ¬ (s.size : Int) > 512 := h; omega
  rw [str_empty]
  refine bif_decide (fun h => (vtxt_nil h).symm) (fun h => ?_)
  rw [show Int.ofNat s.size = (s.size : Int) from rfl, wrap64 (by omega) (by omega)]
  refine bif_true (by simp; omega) ⟨h1, h, ?_⟩
  rw [capU_eq]
theorem IOk.sub {P : Program} {laid : List (Nat × List Value)} {f : FuncId} {F G : IFun} (h : IOk P laid f G) (hs : ∀ args H r, F args H = some r → G args H = some r) : IOk P laid f F :=
  ⟨h.1, fun base W0 μ H W args args' v H' hW hH hl ha hF => h.2 base W0 μ H W args args' v H' hW hH hl ha (hs _ _ _ hF)⟩
noncomputable def txtG (args : List Value) (objs : List IObj) : GT := match args, objs with
  | [.string s], [] => .ret ⟨vtxt s, [], []⟩
  | _, _ => .fail
noncomputable def fTxt : IFun := fun args H => match args with
  | [.string s] => some (vtxt s, H)
  | _ => none
theorem txt_foot (args : List Value) (H : IHeap) (r : Value × IHeap) (h : fTxt args H = some r) : footF tabLaid 20 [] txtG args H = some r := by
  unfold fTxt at h
  split at h
  · rename_i s
    cases h
    rfl
  · cases h
theorem iok_txtG {f : FuncId} {n : Nat} (he : entry Tryz.prog f = some (n, pcOf Tryz.prog f [])) (hn : 1 ≤ n) (hE : ∀ s, EndsN X0 20 f (fun v _ => v = vtxt s) (st f n [.string s] hp0)) : IOk Tryz.prog tabLaid f fTxt :=
  IOk.sub (iok_foot (fs := []) (AllOk.nil _ _) (by kernel_rfl) (n := n) (N := 20) (muts := []) (G := txtG) he rfl fun argsc objs x hx _ => by
    unfold txtG at hx
    split at hx
    · rename_i s _
      simp only [GT.run] at hx
      cases hx
      refine ⟨by simpa using hn, EndsN.mono (hE s) fun v H h => ?_⟩
      subst h
      exact tm_plain (by rfl)
    · cases hx) txt_foot
theorem iok_txt : IOk Tryz.prog tabLaid f_value_Text fTxt := iok_txtG (n := 15) (by kernel_rfl) (by omega) txt_ends
end Go.Ideal

set_option maxRecDepth 1000000
namespace Go.Ideal
open Go.Proofs
structure PlainF where
  ok : List Value → Prop
  v : List Value → Value
open Classical in
noncomputable def PlainF.F (q : PlainF) : IFun := fun args H => if q.ok args then some (q.v args, H) else none
noncomputable def PlainF.p (q : PlainF) : PFun := fun args H K => q.ok args ∧ K (q.v args) H
theorem PlainF.p_ok {q : PlainF} {X : Ctx} {f : FuncId} (hX : X.intr f = some q.F) (args : List Value) (H : IHeap) (K : Value → IHeap → Prop) (h : q.p args H K) : ∃ v H', intrAt X f args .normal H = some (v, H') ∧ K v H' := by
  refine ⟨q.v args, H, ?_, h.2⟩
  unfold intrAt
  simp only [hX]
  unfold PlainF.F
  exact if_pos h.1
theorem iok_plain {fs : List (FuncId × IFun)} (hfs : AllOk Tryz.prog tabLaid fs) {f : FuncId} {n : Nat} (he : entry Tryz.prog f = some (n, pcOf Tryz.prog f [])) {q : PlainF}
    (hF : ∀ args, q.ok args → args.all flat = true ∧ args.length ≤ n ∧ flat (q.v args) = true ∧ EndsN (ctxI Tryz.prog tabLaid fs) 20 f (fun v' _ => v' = q.v args) (st f n args hp0)) : IOk Tryz.prog tabLaid f q.F := by
  refine ⟨⟨n, _, he⟩, ?_⟩
  intro base W0 μ H W args args' v H' hW hH hl ha hFv
  unfold PlainF.F at hFv
  split at hFv
  · rename_i hq
    cases hFv
    obtain ⟨h1, h2, h3, h4⟩ := hF args hq
    have hW1 : LaidW (ctxI Tryz.prog tabLaid fs) (base.at W) W := by
      have := hW.carry hH
      unfold LaidW at this ⊢
      exact this
    obtain ⟨s1, s2⟩ := start0 (X := ctxI Tryz.prog tabLaid fs) hW1 (none_le _) (fun _ hi => hi) (n := 20) (all_lt (by kernel_rfl))
    have s3 := s1.sub (H' := hp0) (fun b o e => by cases e) (heap0_next _ _).symm
    have hargs : args'.toList = args := flats_eq args _ h1 ha
    intro cs
    obtain ⟨c', ⟨v2, Hf, hd, rfl⟩, μ1, fr1, cs1, W1, st, m1⟩ := h4 (base.at W) W (fun b T hb => by cases hb) (hfs.intr _ _ hW1) (planOk_of (by kernel_rfl) rfl) cs _ _ [] W (start_rel s3 s2 he (by rw [hargs]; exact flats_refl args h1) h2)
    obtain ⟨rfl, hf, v', e1, e2, e3⟩ := done_rel m1 hd
    have hs' : Steps (ctxI Tryz.prog tabLaid fs).P (lone (Frame.enter (ctxI Tryz.prog tabLaid fs).P f args' .normal) cs W) (lone fr1 cs W1) := by simpa using st
    refine ⟨.returned v', W1, fr1, ⟨v', μ, rfl, hH.carry (size_of_kept e2) e2.below e2.out e2.os, ?_, Evolve.refl _ _⟩, hs', hf, e1⟩
    rw [flat_eq h3 e3]; exact flat_refl h3
  · cases hFv
theorem iok_plain2 {f : FuncId} {n : Nat} (he : entry Tryz.prog f = some (n, pcOf Tryz.prog f [])) {q : PlainF}
    (hF : ∀ args, q.ok args → args.all flat = true ∧ args.length ≤ n ∧ flat (q.v args) = true ∧ ∃ fs, AllOk Tryz.prog tabLaid fs ∧ EndsN (ctxI Tryz.prog tabLaid fs) 20 f (fun v' _ => v' = q.v args) (st f n args hp0)) : IOk Tryz.prog tabLaid f q.F := by
  refine ⟨⟨n, _, he⟩, ?_⟩
  intro base W0 μ H W args args' v H' hW hH hl ha hFv
  unfold PlainF.F at hFv
  split at hFv
  · rename_i hq
    cases hFv
    obtain ⟨h1, h2, h3, fs, hfs, h4⟩ := hF args hq
    have hW1 : LaidW (ctxI Tryz.prog tabLaid fs) (base.at W) W := by
      have := hW.carry hH
      unfold LaidW at this ⊢
      exact this
    obtain ⟨s1, s2⟩ := start0 (X := ctxI Tryz.prog tabLaid fs) hW1 (none_le _) (fun _ hi => hi) (n := 20) (all_lt (by kernel_rfl))
    have s3 := s1.sub (H' := hp0) (fun b o e => by cases e) (heap0_next _ _).symm
    have hargs : args'.toList = args := flats_eq args _ h1 ha
    intro cs
    obtain ⟨c', ⟨v2, Hf, hd, rfl⟩, μ1, fr1, cs1, W1, st, m1⟩ := h4 (base.at W) W (fun b T hb => by cases hb) (hfs.intr _ _ hW1) (planOk_of (by kernel_rfl) rfl) cs _ _ [] W (start_rel s3 s2 he (by rw [hargs]; exact flats_refl args h1) h2)
    obtain ⟨rfl, hf, v', e1, e2, e3⟩ := done_rel m1 hd
    have hs' : Steps (ctxI Tryz.prog tabLaid fs).P (lone (Frame.enter (ctxI Tryz.prog tabLaid fs).P f args' .normal) cs W) (lone fr1 cs W1) := by simpa using st
    refine ⟨.returned v', W1, fr1, ⟨v', μ, rfl, hH.carry (size_of_kept e2) e2.below e2.out e2.os, ?_, Evolve.refl _ _⟩, hs', hf, e1⟩
    rw [flat_eq h3 e3]; exact flat_refl h3
  · cases hFv
end Go.Ideal

set_option maxRecDepth 1000000
namespace Go.Ideal
open Go.Proofs
def nm (i : Nat) : ByteArray := ⟨(([[97], [98], [99], [97, 98], [107, 49], [49, 50, 51, 52, 53, 54, 55, 56, 57]] : List (List UInt8)).getD i []).toArray⟩
def isNm (s : ByteArray) : Prop := s = ⟨#[97]⟩ ∨ s = ⟨#[98]⟩ ∨ s = ⟨#[99]⟩ ∨ s = ⟨#[97, 98]⟩ ∨ s = ⟨#[107, 49]⟩ ∨ s = ⟨#[49, 50, 51, 52, 53, 54, 55, 56, 57]⟩
noncomputable def qKey : PlainF where
  ok := fun args => match args with
    | [.string s] => isNm s
    | _ => False
  v := fun _ => .int .i64 0
noncomputable def pKey : PFun := fun args H K => match args with
  | [.string s] => isNm s ∧ K (.int .i64 0) H
  | _ => False
noncomputable def fTxt2 : IFun := fun args H => match args with
  | [.string s] => if s.size ≤ 512 then some (.tuple ⟨[.string (vstr s), .int .i64 0]⟩, H) else none
  | _ => none
noncomputable def pTxt2 : PFun := fun args H K => match args with
  | [.string s] => s.size ≤ 512 ∧ K (.tuple ⟨[.string (vstr s), .int .i64 0]⟩) H
  | _ => False
noncomputable abbrev ckFs : List (FuncId × IFun) := [(f_key_Check, qKey.F), (f_value_Text, fTxt2)]
noncomputable def XCk : Ctx := ctxI Tryz.prog tab42 ckFs
noncomputable def pfCk : Pf := fun g => bif Nat.beq g f_key_Check then some pKey else (fun g => bif Nat.beq g f_value_Text then some pTxt2 else noPf g) g
noncomputable def opV (k a b : Int) (key val : ByteArray) : Value := .agg ⟨[.int .i64 k, .int .i64 a, .int .i64 b, .string key, .string val]⟩
theorem vc_k0 (Q : Value → List (Option IObj) → Prop) : VC X0 f_key_Check [] Q 6000 (st f_key_Check 20 [.string ⟨#[97]⟩] hp0) = (
 (Q (.int IntKind.i64 0) [])) := by kernel_rfl
theorem vc_k1 (Q : Value → List (Option IObj) → Prop) : VC X0 f_key_Check [] Q 6000 (st f_key_Check 20 [.string ⟨#[98]⟩] hp0) = (
 (Q (.int IntKind.i64 0) [])) := by kernel_rfl
theorem vc_k2 (Q : Value → List (Option IObj) → Prop) : VC X0 f_key_Check [] Q 6000 (st f_key_Check 20 [.string ⟨#[99]⟩] hp0) = (
 (Q (.int IntKind.i64 0) [])) := by kernel_rfl
theorem vc_k3 (Q : Value → List (Option IObj) → Prop) : VC X0 f_key_Check [] Q 6000 (st f_key_Check 20 [.string ⟨#[97, 98]⟩] hp0) = (
 (Q (.int IntKind.i64 0) [])) := by kernel_rfl
theorem vc_k4 (Q : Value → List (Option IObj) → Prop) : VC X0 f_key_Check [] Q 6000 (st f_key_Check 20 [.string ⟨#[107, 49]⟩] hp0) = (
 (Q (.int IntKind.i64 0) [])) := by kernel_rfl
theorem vc_k5 (Q : Value → List (Option IObj) → Prop) : VC X0 f_key_Check [] Q 9000 (st f_key_Check 20 [.string ⟨#[49, 50, 51, 52, 53, 54, 55, 56, 57]⟩] hp0) = (
 (Q (.int IntKind.i64 0) [])) := by kernel_rfl
theorem vc_ck4 (Q : Value → List (Option IObj) → Prop) : VCp XCk pfCk f_op_Check [] Q 2000 (st f_op_Check 11 [opV 4 0 0 ByteArray.empty ByteArray.empty] hp0) = (
 (((.agg ⟨[(.int IntKind.i64 4), (.int IntKind.i64 0), (.int IntKind.i64 0), (.string ({ data := #[] })), (.string ({ data := #[] }))]⟩) : Value) = (.agg ⟨[(.int IntKind.i64 4), (.int IntKind.i64 0), (.int IntKind.i64 0), (.string ({ data := #[] })), (.string ({ data := #[] }))]⟩)) ∧
 (((.int IntKind.i64 4) : Value) = (.int IntKind.i64 4)) ∧
 (((.pointer (some ⟨21, 0, none⟩)) : Value) = (.pointer (some ⟨21, 0, none⟩))) ∧
 (Q (.int IntKind.i64 0) [])) := by kernel_rfl
theorem vc_ck2 (key : ByteArray) (Q : Value → List (Option IObj) → Prop) : VCp XCk pfCk f_op_Check [] Q 2000 (st f_op_Check 11 [opV 2 0 0 key ByteArray.empty] hp0) = (
 (((.agg ⟨[(.int IntKind.i64 2), (.int IntKind.i64 0), (.int IntKind.i64 0), (.string ({ data := #[] })), (.string ({ data := #[] }))]⟩) : Value) = (.agg ⟨[(.int IntKind.i64 2), (.int IntKind.i64 0), (.int IntKind.i64 0), (.string ({ data := #[] })), (.string ({ data := #[] }))]⟩)) ∧
 (((.int IntKind.i64 2) : Value) = (.int IntKind.i64 2)) ∧
 (((.pointer (some ⟨21, 0, none⟩)) : Value) = (.pointer (some ⟨21, 0, none⟩))) ∧
 (bif Nat.ble (ByteArray.size { data := #[32] } + ByteArray.size key) 9223372036854775807 then
  (isNm key) ∧
  (((.agg ⟨[(.int IntKind.i64 2), (.int IntKind.i64 0), (.int IntKind.i64 0), (.string key), (.string ({ data := #[] }))]⟩) : Value) = (.agg ⟨[(.int IntKind.i64 2), (.int IntKind.i64 0), (.int IntKind.i64 0), (.string key), (.string ({ data := #[] }))]⟩)) ∧
  (((.string key) : Value) = (.string key)) ∧
  (((.pointer (some ⟨26, 3, none⟩)) : Value) = (.pointer (some ⟨26, 3, none⟩))) ∧
  (((.int IntKind.i64 2) : Value) = (.int IntKind.i64 2)) ∧
  (((.pointer (some ⟨26, 0, none⟩)) : Value) = (.pointer (some ⟨26, 0, none⟩))) ∧
  (bif Nat.ble (ByteArray.size { data := #[32] } + ByteArray.size key) 9223372036854775807 then
   (((.string ({ data := #[32] } ++ key)) : Value) = (.string ({ data := #[32] } ++ key))) ∧
   (((.string key) : Value) = (.string key)) ∧
   (((.pointer (some ⟨26, 3, none⟩)) : Value) = (.pointer (some ⟨26, 3, none⟩))) ∧
   (((.bool (0 == 0)) : Value) = (.bool true)) ∧
   (((.agg ⟨[(.int IntKind.i64 2), (.int IntKind.i64 0), (.int IntKind.i64 0), (.string key), (.string ({ data := #[] }))]⟩) : Value) = (.agg ⟨[(.int IntKind.i64 2), (.int IntKind.i64 0), (.int IntKind.i64 0), (.string key), (.string ({ data := #[] }))]⟩)) ∧
   (((.string key) : Value) = (.string key)) ∧
   (((.pointer (some ⟨26, 3, none⟩)) : Value) = (.pointer (some ⟨26, 3, none⟩))) ∧
   (((.int IntKind.i64 2) : Value) = (.int IntKind.i64 2)) ∧
   (((.pointer (some ⟨26, 0, none⟩)) : Value) = (.pointer (some ⟨26, 0, none⟩))) ∧
   (((.bool (0 == 0)) : Value) = (.bool true)) ∧
   (bif !(2 == 2 && (0 == 0 && (0 == 0 && (ByteArray.toList key == ByteArray.toList key && (ByteArray.toList { data := #[] } == ByteArray.toList ByteArray.empty && true))))) then
    (Q (.int IntKind.i64 2) [])
   else
    (bif Nat.ble (ByteArray.size { data := #[103, 101, 116] } + ByteArray.size ({ data := #[32] } ++ key)) 9223372036854775807 then
     (Q (.int IntKind.i64 0) [])
    else
     False))
  else
   False)
 else
  False)) := by kernel_rfl
theorem vc_ck3 (key : ByteArray) (Q : Value → List (Option IObj) → Prop) : VCp XCk pfCk f_op_Check [] Q 2000 (st f_op_Check 11 [opV 3 0 0 key ByteArray.empty] hp0) = (
 (((.agg ⟨[(.int IntKind.i64 3), (.int IntKind.i64 0), (.int IntKind.i64 0), (.string ({ data := #[] })), (.string ({ data := #[] }))]⟩) : Value) = (.agg ⟨[(.int IntKind.i64 3), (.int IntKind.i64 0), (.int IntKind.i64 0), (.string ({ data := #[] })), (.string ({ data := #[] }))]⟩)) ∧
 (((.int IntKind.i64 3) : Value) = (.int IntKind.i64 3)) ∧
 (((.pointer (some ⟨21, 0, none⟩)) : Value) = (.pointer (some ⟨21, 0, none⟩))) ∧
 (bif Nat.ble (ByteArray.size { data := #[32] } + ByteArray.size key) 9223372036854775807 then
  (isNm key) ∧
  (((.agg ⟨[(.int IntKind.i64 3), (.int IntKind.i64 0), (.int IntKind.i64 0), (.string key), (.string ({ data := #[] }))]⟩) : Value) = (.agg ⟨[(.int IntKind.i64 3), (.int IntKind.i64 0), (.int IntKind.i64 0), (.string key), (.string ({ data := #[] }))]⟩)) ∧
  (((.string key) : Value) = (.string key)) ∧
  (((.pointer (some ⟨26, 3, none⟩)) : Value) = (.pointer (some ⟨26, 3, none⟩))) ∧
  (((.int IntKind.i64 3) : Value) = (.int IntKind.i64 3)) ∧
  (((.pointer (some ⟨26, 0, none⟩)) : Value) = (.pointer (some ⟨26, 0, none⟩))) ∧
  (bif Nat.ble (ByteArray.size { data := #[32] } + ByteArray.size key) 9223372036854775807 then
   (((.string ({ data := #[32] } ++ key)) : Value) = (.string ({ data := #[32] } ++ key))) ∧
   (((.string key) : Value) = (.string key)) ∧
   (((.pointer (some ⟨26, 3, none⟩)) : Value) = (.pointer (some ⟨26, 3, none⟩))) ∧
   (((.bool (0 == 0)) : Value) = (.bool true)) ∧
   (((.agg ⟨[(.int IntKind.i64 3), (.int IntKind.i64 0), (.int IntKind.i64 0), (.string key), (.string ({ data := #[] }))]⟩) : Value) = (.agg ⟨[(.int IntKind.i64 3), (.int IntKind.i64 0), (.int IntKind.i64 0), (.string key), (.string ({ data := #[] }))]⟩)) ∧
   (((.string key) : Value) = (.string key)) ∧
   (((.pointer (some ⟨26, 3, none⟩)) : Value) = (.pointer (some ⟨26, 3, none⟩))) ∧
   (((.int IntKind.i64 3) : Value) = (.int IntKind.i64 3)) ∧
   (((.pointer (some ⟨26, 0, none⟩)) : Value) = (.pointer (some ⟨26, 0, none⟩))) ∧
   (((.bool (0 == 0)) : Value) = (.bool true)) ∧
   (bif !(3 == 3 && (0 == 0 && (0 == 0 && (ByteArray.toList key == ByteArray.toList key && (ByteArray.toList { data := #[] } == ByteArray.toList ByteArray.empty && true))))) then
    (Q (.int IntKind.i64 2) [])
   else
    (bif Nat.ble (ByteArray.size { data := #[100, 101, 108, 101, 116, 101] } + ByteArray.size ({ data := #[32] } ++ key)) 9223372036854775807 then
     (Q (.int IntKind.i64 0) [])
    else
     False))
  else
   False)
 else
  False)) := by kernel_rfl
theorem vc_ck1 (key val : ByteArray) (Q : Value → List (Option IObj) → Prop) : VCp XCk pfCk f_op_Check [] Q 2000 (st f_op_Check 11 [opV 1 0 0 key val] hp0) = (
 (((.agg ⟨[(.int IntKind.i64 1), (.int IntKind.i64 0), (.int IntKind.i64 0), (.string ({ data := #[] })), (.string ({ data := #[] }))]⟩) : Value) = (.agg ⟨[(.int IntKind.i64 1), (.int IntKind.i64 0), (.int IntKind.i64 0), (.string ({ data := #[] })), (.string ({ data := #[] }))]⟩)) ∧
 (((.int IntKind.i64 1) : Value) = (.int IntKind.i64 1)) ∧
 (((.pointer (some ⟨21, 0, none⟩)) : Value) = (.pointer (some ⟨21, 0, none⟩))) ∧
 (bif Nat.ble (ByteArray.size { data := #[32] } + ByteArray.size key) 9223372036854775807 then
  (isNm key) ∧
  (((.agg ⟨[(.int IntKind.i64 1), (.int IntKind.i64 0), (.int IntKind.i64 0), (.string key), (.string ({ data := #[] }))]⟩) : Value) = (.agg ⟨[(.int IntKind.i64 1), (.int IntKind.i64 0), (.int IntKind.i64 0), (.string key), (.string ({ data := #[] }))]⟩)) ∧
  (((.string key) : Value) = (.string key)) ∧
  (((.pointer (some ⟨28, 3, none⟩)) : Value) = (.pointer (some ⟨28, 3, none⟩))) ∧
  (((.int IntKind.i64 1) : Value) = (.int IntKind.i64 1)) ∧
  (((.pointer (some ⟨28, 0, none⟩)) : Value) = (.pointer (some ⟨28, 0, none⟩))) ∧
  (bif Nat.ble (ByteArray.size { data := #[32] } + ByteArray.size key) 9223372036854775807 then
   (((.string ({ data := #[32] } ++ key)) : Value) = (.string ({ data := #[32] } ++ key))) ∧
   (((.string key) : Value) = (.string key)) ∧
   (((.pointer (some ⟨28, 3, none⟩)) : Value) = (.pointer (some ⟨28, 3, none⟩))) ∧
   (((.bool (0 == 0)) : Value) = (.bool true)) ∧
   (((.agg ⟨[(.int IntKind.i64 1), (.int IntKind.i64 0), (.int IntKind.i64 0), (.string key), (.string ({ data := #[] }))]⟩) : Value) = (.agg ⟨[(.int IntKind.i64 1), (.int IntKind.i64 0), (.int IntKind.i64 0), (.string key), (.string ({ data := #[] }))]⟩)) ∧
   (((.string key) : Value) = (.string key)) ∧
   (((.pointer (some ⟨28, 3, none⟩)) : Value) = (.pointer (some ⟨28, 3, none⟩))) ∧
   (((.int IntKind.i64 1) : Value) = (.int IntKind.i64 1)) ∧
   (((.pointer (some ⟨28, 0, none⟩)) : Value) = (.pointer (some ⟨28, 0, none⟩))) ∧
   (((.bool (0 == 0)) : Value) = (.bool true)) ∧
   (ByteArray.size val ≤ 512) ∧
   (bif Nat.ble (ByteArray.size ({ data := #[32] } ++ key) + ByteArray.size { data := #[32] }) 9223372036854775807 then
    (bif Nat.ble (ByteArray.size ({ data := #[32] } ++ key ++ { data := #[32] }) + ByteArray.size (vstr val)) 9223372036854775807 then
     (((.bool true) : Value) = (.bool true)) ∧
     (((.bool (0 == 0)) : Value) = (.bool true)) ∧
     (((.int IntKind.i64 0) : Value) = (.int IntKind.i64 0)) ∧
     (((.agg ⟨[(.int IntKind.i64 1), (.int IntKind.i64 0), (.int IntKind.i64 0), (.string key), (.string val)]⟩) : Value) = (.agg ⟨[(.int IntKind.i64 1), (.int IntKind.i64 0), (.int IntKind.i64 0), (.string key), (.string val)]⟩)) ∧
     (((.bool true) : Value) = (.bool true)) ∧
     (((.bool (0 == 0)) : Value) = (.bool true)) ∧
     (((.int IntKind.i64 0) : Value) = (.int IntKind.i64 0)) ∧
     (bif !(1 == 1 && (0 == 0 && (0 == 0 && (ByteArray.toList key == ByteArray.toList key && (ByteArray.toList val == ByteArray.toList val && true))))) then
      (Q (.int IntKind.i64 2) [])
     else
      (bif Nat.ble (ByteArray.size { data := #[112, 117, 116] } + ByteArray.size ({ data := #[32] } ++ key ++ { data := #[32] } ++ vstr val)) 9223372036854775807 then
       (Q (.int IntKind.i64 0) [])
      else
       False))
    else
     False)
   else
    False)
  else
   False)
 else
  False)) := by kernel_rfl
theorem vc_ck5 (Q : Value → List (Option IObj) → Prop) : VCp XCk pfCk f_op_Check [] Q 2000 (st f_op_Check 11 [opV 5 0 0 ByteArray.empty ByteArray.empty] hp0) = (
 (((.agg ⟨[(.int IntKind.i64 5), (.int IntKind.i64 0), (.int IntKind.i64 0), (.string ({ data := #[] })), (.string ({ data := #[] }))]⟩) : Value) = (.agg ⟨[(.int IntKind.i64 5), (.int IntKind.i64 0), (.int IntKind.i64 0), (.string ({ data := #[] })), (.string ({ data := #[] }))]⟩)) ∧
 (((.int IntKind.i64 5) : Value) = (.int IntKind.i64 5)) ∧
 (((.pointer (some ⟨21, 0, none⟩)) : Value) = (.pointer (some ⟨21, 0, none⟩))) ∧
 (Q (.int IntKind.i64 0) [])) := by kernel_rfl
theorem vc_ck8 (Q : Value → List (Option IObj) → Prop) : VCp XCk pfCk f_op_Check [] Q 2000 (st f_op_Check 11 [opV 8 0 0 ByteArray.empty ByteArray.empty] hp0) = (
 (((.agg ⟨[(.int IntKind.i64 8), (.int IntKind.i64 0), (.int IntKind.i64 0), (.string ({ data := #[] })), (.string ({ data := #[] }))]⟩) : Value) = (.agg ⟨[(.int IntKind.i64 8), (.int IntKind.i64 0), (.int IntKind.i64 0), (.string ({ data := #[] })), (.string ({ data := #[] }))]⟩)) ∧
 (((.int IntKind.i64 8) : Value) = (.int IntKind.i64 8)) ∧
 (((.pointer (some ⟨21, 0, none⟩)) : Value) = (.pointer (some ⟨21, 0, none⟩))) ∧
 (Q (.int IntKind.i64 0) [])) := by kernel_rfl
end Go.Ideal

set_option maxRecDepth 100000
namespace Go.Ideal
theorem ba_size (s : ByteArray) : s.size = s.data.toList.length := (Array.length_toList).symm
theorem vstr_size (s : ByteArray) : (vstr s).size ≤ 1024 := by
  unfold vstr
  split
  · exact Nat.zero_le _
  · split
    · show 1 ≤ 1024; omega
    · rw [ba_size]
      unfold bytesV
      show ((hexOf (strInts s)).map fun n => UInt8.ofNat n.toNat).length ≤ 1024
      rw [List.length_map, hexOf_length, strInts_length]; omega
end Go.Ideal

set_option maxRecDepth 1000000
namespace Go.Ideal
open Go.Proofs
theorem key_ends {s : ByteArray} (h : isNm s) : EndsIn X0 f_key_Check (fun v' _ => v' = .int .i64 0) (st f_key_Check 20 [.string s] hp0) := by
  rcases h with rfl | rfl | rfl | rfl | rfl | rfl
  · refine VC_ok (ids := []) (Q := fun v' _ => v' = .int .i64 0) 6000 _ ?_; rw [vc_k0]
  · refine VC_ok (ids := []) (Q := fun v' _ => v' = .int .i64 0) 6000 _ ?_; rw [vc_k1]
  · refine VC_ok (ids := []) (Q := fun v' _ => v' = .int .i64 0) 6000 _ ?_; rw [vc_k2]
  · refine VC_ok (ids := []) (Q := fun v' _ => v' = .int .i64 0) 6000 _ ?_; rw [vc_k3]
  · refine VC_ok (ids := []) (Q := fun v' _ => v' = .int .i64 0) 6000 _ ?_; rw [vc_k4]
  · refine VC_ok (ids := []) (Q := fun v' _ => v' = .int .i64 0) 9000 _ ?_; rw [vc_k5]
theorem iok_key : IOk Tryz.prog tabLaid f_key_Check qKey.F := by
  refine iok_plain (fs := []) (AllOk.nil _ _) (n := 20) (by kernel_rfl) fun args h => ?_
  unfold qKey at h
  simp only at h
  split at h
  · exact ⟨rfl, by simp, rfl, (key_ends h).toN⟩
  · exact h.elim
theorem pKey_ok {X : Ctx} {f : FuncId} (hX : X.intr f = some qKey.F) (args : List Value) (H : IHeap) (K : Value → IHeap → Prop) (h : pKey args H K) : ∃ v H', intrAt X f args .normal H = some (v, H') ∧ K v H' := by
  unfold pKey at h
  split at h
  · rename_i s
    exact PlainF.p_ok (q := qKey) hX _ H K ⟨h.1, h.2⟩
  · exact h.elim
theorem pTxt2_ok {X : Ctx} {f : FuncId} (hX : X.intr f = some fTxt2) (args : List Value) (H : IHeap) (K : Value → IHeap → Prop) (h : pTxt2 args H K) : ∃ v H', intrAt X f args .normal H = some (v, H') ∧ K v H' := by
  unfold pTxt2 at h
  split at h
  · rename_i s
    refine ⟨_, _, ?_, h.2⟩
    unfold intrAt
    simp only [hX]
    unfold fTxt2
    exact if_pos h.1
  · exact h.elim
theorem iok_txt2 : IOk Tryz.prog tabLaid f_value_Text fTxt2 := IOk.sub iok_txt fun args H r h => by
  unfold fTxt2 at h
  split at h
  · rename_i s
    split at h
    · rename_i hs
      cases h
      have : verr s = 0 := by unfold verr; rw [if_neg (by omega)]
      show some (Value.tuple ⟨[.string (vstr s), .int .i64 (verr s)]⟩, H) = _
      rw [this]
    · cases h
  · cases h
theorem pfCk_ok : PfOk XCk pfCk := pf_cons (pKey_ok (by kernel_rfl)) (pf_cons (pTxt2_ok (by kernel_rfl)) (noPf_ok _))
theorem szl {n : Nat} (h : n ≤ 9223372036854775807) : Nat.ble n 9223372036854775807 = true := Nat.ble_eq_true_of_le h
theorem hlit (l : List UInt8) : ByteArray.size (ByteArray.mk l.toArray) = l.length := rfl
theorem bif_not {b : Bool} {A B : Prop} (h : b = true) (h1 : B) : (bif !b then A else B) := by rw [h]; exact h1
theorem nm_size {s : ByteArray} (h : isNm s) : s.size ≤ 9 := by
  rcases h with rfl | rfl | rfl | rfl | rfl | rfl <;> decide
abbrev CkQ : Value → List (Option IObj) → Prop := fun v _ => v = .int .i64 0
theorem ck_of {k a b : Int} {key val : ByteArray} (h : VCp XCk pfCk f_op_Check [] CkQ 2000 (st f_op_Check 11 [opV k a b key val] hp0)) : EndsN XCk 20 f_op_Check (fun v _ => v = .int .i64 0) (st f_op_Check 11 [opV k a b key val] hp0) :=
  (VCp_ok pfCk_ok (ids := []) (Q := CkQ) 2000 _ h).toN
theorem ck_put {key val : ByteArray} (hk : isNm key) (hv : val.size ≤ 512) : VCp XCk pfCk f_op_Check [] CkQ 2000 (st f_op_Check 11 [opV 1 0 0 key val] hp0) := by
  have h1 := nm_size hk
  have h2 := vstr_size val
  rw [vc_ck1]
  repeat first | exact rfl | refine ⟨rfl, ?_⟩ | refine ⟨hk, ?_⟩ | refine ⟨hv, ?_⟩ | refine bif_true (szl (by simp only [ByteArray.size_append, hlit, List.length_cons, List.length_nil]; omega)) ?_ | refine bif_not (by simp) ?_
theorem ck_get {key : ByteArray} (hk : isNm key) : VCp XCk pfCk f_op_Check [] CkQ 2000 (st f_op_Check 11 [opV 2 0 0 key ByteArray.empty] hp0) := by
  have h1 := nm_size hk
  rw [vc_ck2]
  repeat first | exact rfl | refine ⟨rfl, ?_⟩ | refine ⟨hk, ?_⟩ | refine bif_true (szl (by simp only [ByteArray.size_append, hlit, List.length_cons, List.length_nil]; omega)) ?_ | refine bif_not (by simp) ?_
theorem ck_del {key : ByteArray} (hk : isNm key) : VCp XCk pfCk f_op_Check [] CkQ 2000 (st f_op_Check 11 [opV 3 0 0 key ByteArray.empty] hp0) := by
  have h1 := nm_size hk
  rw [vc_ck3]
  repeat first | exact rfl | refine ⟨rfl, ?_⟩ | refine ⟨hk, ?_⟩ | refine bif_true (szl (by simp only [ByteArray.size_append, hlit, List.length_cons, List.length_nil]; omega)) ?_ | refine bif_not (by simp) ?_
theorem ck_sync : VCp XCk pfCk f_op_Check [] CkQ 2000 (st f_op_Check 11 [opV 4 0 0 ByteArray.empty ByteArray.empty] hp0) := by
  rw [vc_ck4]; exact ⟨rfl, rfl, rfl, rfl⟩
theorem ck_step : VCp XCk pfCk f_op_Check [] CkQ 2000 (st f_op_Check 11 [opV 5 0 0 ByteArray.empty ByteArray.empty] hp0) := by
  rw [vc_ck5]; exact ⟨rfl, rfl, rfl, rfl⟩
theorem ck_reopen : VCp XCk pfCk f_op_Check [] CkQ 2000 (st f_op_Check 11 [opV 8 0 0 ByteArray.empty ByteArray.empty] hp0) := by
  rw [vc_ck8]; exact ⟨rfl, rfl, rfl, rfl⟩
inductive OpGd : Int → Int → Int → ByteArray → ByteArray → Prop where
  | put (key val : ByteArray) (h : isNm key) (hv : val.size ≤ 512) : OpGd 1 0 0 key val
  | get (key : ByteArray) (h : isNm key) : OpGd 2 0 0 key ByteArray.empty
  | del (key : ByteArray) (h : isNm key) : OpGd 3 0 0 key ByteArray.empty
  | sync : OpGd 4 0 0 ByteArray.empty ByteArray.empty
  | step : OpGd 5 0 0 ByteArray.empty ByteArray.empty
  | reopen : OpGd 8 0 0 ByteArray.empty ByteArray.empty
def chkE (k _a _b : Int) (_key _val : ByteArray) : Int := bif Int.blt' k then 2 else 0
where Int.blt' (k : Int) : Bool := decide (k < 1) || decide (8 < k)
def ChkOk : Int → Int → Int → ByteArray → ByteArray → Prop := OpGd
theorem chkE_gd {k a b : Int} {key val : ByteArray} (h : OpGd k a b key val) : chkE k a b key val = 0 := by
  cases h <;> rfl
theorem ck_ends {k a b : Int} {key val : ByteArray} (h : OpGd k a b key val) : EndsN XCk 20 f_op_Check (fun v _ => v = .int .i64 0) (st f_op_Check 11 [opV k a b key val] hp0) ∨ EndsIn X0 f_op_Check (fun v _ => v = .int .i64 0) (st f_op_Check 11 [opV k a b key val] hp0) := by
  cases h with
  | put key val hk hv => exact .inl (ck_of (ck_put hk (by omega)))
  | get key hk => exact .inl (ck_of (ck_get hk))
  | del key hk => exact .inl (ck_of (ck_del hk))
  | sync => exact .inl (ck_of ck_sync)
  | step => exact .inl (ck_of ck_step)
  | reopen => exact .inl (ck_of ck_reopen)
noncomputable def qChk : PlainF where
  ok := fun args => match args with
    | [.agg ⟨[.int .i64 k, .int .i64 a, .int .i64 b, .string key, .string val]⟩] => ChkOk k a b key val
    | _ => False
  v := fun args => match args with
    | [.agg ⟨[.int .i64 k, .int .i64 a, .int .i64 b, .string key, .string val]⟩] => .int .i64 (chkE k a b key val)
    | _ => junk
noncomputable def pChk : PFun := fun args H K => match args with
  | [.agg ⟨[.int .i64 k, .int .i64 a, .int .i64 b, .string key, .string val]⟩] => ChkOk k a b key val ∧ K (.int .i64 (chkE k a b key val)) H
  | _ => False
theorem pChk_ok {X : Ctx} {f : FuncId} (hX : X.intr f = some qChk.F) (args : List Value) (H : IHeap) (K : Value → IHeap → Prop) (h : pChk args H K) : ∃ v H', intrAt X f args .normal H = some (v, H') ∧ K v H' := by
  unfold pChk at h
  split at h
  · exact PlainF.p_ok (q := qChk) hX _ H K ⟨h.1, h.2⟩
  · exact h.elim
theorem iok_chk : IOk Tryz.prog tab42 f_op_Check qChk.F := by
  refine iok_plain2 (n := 11) (by kernel_rfl) fun args h => ?_
  unfold qChk at h
  simp only at h
  split at h
  · rename_i k a b key val
    have he : qChk.v [.agg ⟨[.int .i64 k, .int .i64 a, .int .i64 b, .string key, .string val]⟩] = .int .i64 0 := congrArg _ (chkE_gd h)
    rw [he]
    refine ⟨rfl, by simp, rfl, ?_⟩
    rcases ck_ends h with h1 | h1
    · exact ⟨ckFs, AllOk.cons iok_key (AllOk.cons iok_txt2 (AllOk.nil _ _)), h1⟩
    · exact ⟨[], AllOk.nil _ _, h1.toN⟩
  · exact h.elim
end Go.Ideal

set_option maxRecDepth 1000000
namespace Go.Ideal
open Go.Proofs
def gM (objs : List IObj) : Option (MSt × Nat × Nat) := match objs with
  | [.cells [.int .i64 c0, .int .i64 c1, .int .i64 c2, .int .i64 c3, .int .i64 c4, .int .i64 c5, .int .i64 c6, .int .i64 lim, .pointer (some ⟨10, 0, none⟩), .pointer (some ⟨11, 0, none⟩), .int .i64 cost, .slice (some ⟨12, 0, some 0⟩) n cap, .pointer none, .int .i64 st, .bool pl] 0 _,
      .abs (.pack (.table b)) _, .abs (.pack (.table nw)) _, .vec [.bool, .str, .str] ups _] => some (⟨[c0, c1, c2, c3, c4, c5, c6], lim, b, nw, cost, ups, st, pl⟩, n, cap)
  | _ => none
theorem gM_eq {objs : List IObj} {m : MSt} {n cap : Nat} (h : gM objs = some (m, n, cap)) : ∃ r0 r1 r2 r3, objs = [.cells (mCells m 10 11 (.slice (some ⟨12, 0, some 0⟩) n cap)) 0 r0, .abs (.pack (.table m.base)) r1, .abs (.pack (.table m.now)) r2, .vec kUp m.ups r3] := by
  unfold gM at h
  split at h
  · cases h; exact ⟨_, _, _, _, rfl⟩
  · cases h
noncomputable def mdgG (g : MSt → List Value → GT) (args : List Value) (objs : List IObj) : GT :=
  match args with
  | .pointer (some ⟨9, 0, none⟩) :: rest => match gM objs with
    | some (m, n, cap) => .ask (n = m.ups.length ∧ cap = capU) (g m rest)
    | none => .fail
  | _ => .fail
abbrev mutsR : List Bool := [false, true, true, false]
abbrev mutsW : List Bool := [true, true, true, true]
noncomputable def mdR (m : MSt) : List IObj := [.cells (mCells m 10 11 (.slice (some ⟨12, 0, some 0⟩) m.ups.length capU)) 0 true, .abs (.pack (.table m.base)) false, .abs (.pack (.table m.now)) false, .vec kUp m.ups true]
theorem iok_mdgR {fs : List (FuncId × IFun)} (hfs : AllOk Tryz.prog tab42 fs) {f : FuncId} {n : Nat} (he : entry Tryz.prog f = some (n, pcOf Tryz.prog f [])) {g : MSt → List Value → GT}
    (hrun : ∀ m rest x, (g m rest).run = some x → rest.length + 1 ≤ n ∧ EndsD (ctxI Tryz.prog tab42 fs) 13 (fun b => 9 ≤ b ∧ b < 13) f (fun v H => TMatch tab42 9 4 mutsR x v H) (st f n (p9 :: rest) (putL ⟨.leaf, 9⟩ (mdR m)))) : IOk Tryz.prog tab42 f (footF tab42 9 mutsR (mdgG g)) := by
  refine iok_footD hfs (by kernel_rfl) he (by kernel_rfl) fun argsc objs x hx hro => ?_
  unfold mdgG at hx
  split at hx
  · rename_i rest
    split at hx
    · rename_i m k cap hg
      obtain ⟨r0, r1, r2, r3, rfl⟩ := gM_eq hg
      simp only [GT.run] at hx
      split at hx
      · rename_i hok
        obtain ⟨rfl, rfl⟩ := hok
        have e1 : r1 = false := hro 1 _ rfl rfl
        have e2 : r2 = false := hro 2 _ rfl rfl
        subst e1 e2
        obtain ⟨g1, g2⟩ := hrun m rest x hx
        exact ⟨by simpa using g1, g2⟩
      · cases hx
    · cases hx
  · cases hx
theorem iok_mdgW {fs : List (FuncId × IFun)} (hfs : AllOk Tryz.prog tab42 fs) {f : FuncId} {n : Nat} (he : entry Tryz.prog f = some (n, pcOf Tryz.prog f [])) {g : MSt → List Value → GT}
    (hrun : ∀ m rest x, (g m rest).run = some x → rest.length + 1 ≤ n ∧ EndsD (ctxI Tryz.prog tab42 fs) 13 (fun b => 9 ≤ b ∧ b < 13) f (fun v H => TMatch tab42 9 4 mutsW x v H) (st f n (p9 :: rest) (putL ⟨.leaf, 9⟩ (mdU m)))) : IOk Tryz.prog tab42 f (footF tab42 9 mutsW (mdgG g)) := by
  refine iok_footD hfs (by kernel_rfl) he (by kernel_rfl) fun argsc objs x hx hro => ?_
  unfold mdgG at hx
  split at hx
  · rename_i rest
    split at hx
    · rename_i m k cap hg
      obtain ⟨r0, r1, r2, r3, rfl⟩ := gM_eq hg
      simp only [GT.run] at hx
      split at hx
      · rename_i hok
        obtain ⟨rfl, rfl⟩ := hok
        have e0 : r0 = false := hro 0 _ rfl rfl
        have e1 : r1 = false := hro 1 _ rfl rfl
        have e2 : r2 = false := hro 2 _ rfl rfl
        have e3 : r3 = false := hro 3 _ rfl rfl
        subst e0 e1 e2 e3
        obtain ⟨g1, g2⟩ := hrun m rest x hx
        exact ⟨by simpa using g1, g2⟩
      · cases hx
    · cases hx
  · cases hx
theorem tm_read {v v1 : Value} {H : IHeap} {m : MSt} {news : List IObj} {ns : List Nat} (hb : H.get 10 = some (tbP m.base)) (hn : H.get 11 = some (tbP m.now)) (hns : ns.length = news.length) (hnd : ns.Nodup) (h13 : ∀ b ∈ ns, 13 ≤ b)
    (hv : renV (TMatch.runOf tab42 9 4 ns) v = some v1) (hnew : ∀ (j b : Nat) (o : IObj), ns[j]? = some b → news[j]? = some o → ∃ o1, renO (TMatch.runOf tab42 9 4 ns) o = some o1 ∧ H.get b = some o1) :
    TMatch tab42 9 4 mutsR ⟨v, [none, some (tbP m.base), some (tbP m.now), none], news⟩ v1 H := by
  refine ⟨ns, hnd, h13, hns, hv, hnew, fun j o hj hm ho => ?_⟩
  cases j with
  | zero => cases ho
  | succ j => cases j with
    | zero => cases ho; exact ⟨_, rfl, hb⟩
    | succ j => cases j with
      | zero => cases ho; exact ⟨_, rfl, hn⟩
      | succ j => cases j with
        | zero => cases ho
        | succ j => omega
end Go.Ideal

--CASTS
set_option maxRecDepth 1000000
namespace Go.Ideal
open Go.Proofs
theorem vc_afterG (m : MSt) (del : Bool) (key val : ByteArray) (Q : Value → List (Option IObj) → Prop) : VCp XM pfM f_model_Model_after [10, 11] Q 500 (st f_model_Model_after 40 [p9, .agg ⟨[.bool del, .string key, .string val]⟩] (putL ⟨.leaf, 9⟩ (mdR m))) = (
 (TblF.ok getQ (MSt.now m) [Value.string key]) ∧
 (bif Option.isSome (atK (MSt.now m) key) then
  (((.bool (Option.isSome (atK (MSt.now m) key))) : Value) = (.bool true)) ∧
  (bif del then
   (Q (.int IntKind.i64 (IntKind.wrap IntKind.i64 (MSt.cost m - IntKind.wrap IntKind.i64 (IntKind.wrap IntKind.i64 (16 + Int.ofNat (ByteArray.size key)) + Int.ofNat (ByteArray.size (Option.getD (atK (MSt.now m) key) { data := #[] })))))) [some (.abs (Abs.pack (Pk.table (MSt.base m))) false), some (.abs (Abs.pack (Pk.table (TblF.nx getQ (MSt.now m) [Value.string key]))) false)])
  else
   (Q (.int IntKind.i64 (IntKind.wrap IntKind.i64 (IntKind.wrap IntKind.i64 (MSt.cost m - IntKind.wrap IntKind.i64 (IntKind.wrap IntKind.i64 (16 + Int.ofNat (ByteArray.size key)) + Int.ofNat (ByteArray.size (Option.getD (atK (MSt.now m) key) { data := #[] })))) + IntKind.wrap IntKind.i64 (IntKind.wrap IntKind.i64 (16 + Int.ofNat (ByteArray.size key)) + Int.ofNat (ByteArray.size val))))) [some (.abs (Abs.pack (Pk.table (MSt.base m))) false), some (.abs (Abs.pack (Pk.table (TblF.nx getQ (MSt.now m) [Value.string key]))) false)]))
 else
  (((.bool (Option.isSome (atK (MSt.now m) key))) : Value) = (.bool false)) ∧
  (bif del then
   (Q (.int IntKind.i64 (MSt.cost m)) [some (.abs (Abs.pack (Pk.table (MSt.base m))) false), some (.abs (Abs.pack (Pk.table (TblF.nx getQ (MSt.now m) [Value.string key]))) false)])
  else
   (Q (.int IntKind.i64 (IntKind.wrap IntKind.i64 (MSt.cost m + IntKind.wrap IntKind.i64 (IntKind.wrap IntKind.i64 (16 + Int.ofNat (ByteArray.size key)) + Int.ofNat (ByteArray.size val))))) [some (.abs (Abs.pack (Pk.table (MSt.base m))) false), some (.abs (Abs.pack (Pk.table (TblF.nx getQ (MSt.now m) [Value.string key]))) false)])))) := by kernel_rfl
end Go.Ideal

set_option maxRecDepth 1000000
namespace Go.Ideal
open Go.Proofs
noncomputable def afterG (m : MSt) (rest : List Value) : GT :=
  match rest with
  | [.agg ⟨[.bool del, .string key, .string val]⟩] => .ask (sortedK m.now ∧ m.now.length < 1000000) (.ret ⟨.int .i64 (afterV m del key val), [none, some (tbP m.base), some (tbP m.now), none], []⟩)
  | _ => .fail
theorem iok_afterG : IOk Tryz.prog tab42 f_model_Model_after (footF tab42 9 mutsR (mdgG afterG)) := by
  refine iok_mdgR allM (by kernel_rfl) (n := 40) fun m rest x hx => ?_
  unfold afterG at hx
  split at hx
  · rename_i del key val
    simp only [GT.run] at hx
    split at hx
    · rename_i hok
      cases hx
      obtain ⟨hs, hn⟩ := hok
      refine ⟨by simp, ?_⟩
      have hE : EndsN XM 13 f_model_Model_after (fun v H => v = .int .i64 (afterV m del key val) ∧ ([10, 11] ++ refsN 4 v).map H.get = [some (tbP m.base), some (tbP m.now)]) (st f_model_Model_after 40 [p9, .agg ⟨[.bool del, .string key, .string val]⟩] (putL ⟨.leaf, 9⟩ (mdR m))) := by
        refine EndsIn.toN (VCp_ok pfM_ok (ids := [10, 11]) (Q := fun v os => v = .int .i64 (afterV m del key val) ∧ os = [some (tbP m.base), some (tbP m.now)]) 500 _ ?_)
        rw [vc_afterG]
        unfold afterV
        refine ⟨⟨hs, by omega, key, rfl⟩, bif_both (fun h1 => ⟨by rw [h1], bif_both (fun h2 => ⟨?_, rfl⟩) (fun h2 => ⟨?_, rfl⟩)⟩) (fun h1 => ⟨by rw [h1], bif_both (fun h2 => ⟨?_, rfl⟩) (fun h2 => ⟨?_, rfl⟩)⟩)⟩
        all_goals (simp only [h1, h2, cond_true, cond_false] <;> rfl)
      refine hE.toD.mono ?_
      rintro v H ⟨rfl, h⟩
      have h : [H.get 10, H.get 11] = _ := h
      simp only [List.cons.injEq, and_true] at h
      exact tm_read (ns := []) h.1 h.2 rfl List.nodup_nil (fun b hb => by cases hb) rfl (fun j b o hj => by cases hj)
    · cases hx
  · cases hx
end Go.Ideal

--CASTS
set_option maxRecDepth 1000000
namespace Go.Ideal
open Go.Proofs
noncomputable abbrev fsAn : List (FuncId × IFun) := (f_model_Model_after, footF tab42 9 mutsR (mdgG afterG)) :: fsM
noncomputable def XAn : Ctx := ctxI Tryz.prog tab42 fsAn
noncomputable def pfAn : Pf := fun g => bif Nat.beq g f_model_Model_after then some (footPf tab42 9 mutsR (mdgG afterG)) else pfM g
theorem vc_ans (m : MSt) (k a b : Int) (key val : ByteArray) (Q : Value → List (Option IObj) → Prop) : VCp XAn pfAn f_model_Model_answer [10, 11] Q 2000 (st f_model_Model_answer 97 [p9, opV k a b key val] (putL ⟨.leaf, 9⟩ (mdR m))) = (
 (TblF.ok getQ (MSt.now m) [Value.string key]) ∧
 (bif Option.isSome (atK (MSt.now m) key) then
  (((.bool (Option.isSome (atK (MSt.now m) key))) : Value) = (.bool true)) ∧
  (bif decide (Int.ofNat (ByteArray.size key) > List.getD (MSt.cfg m) 4 0) then
   (bif k == 3 then
    (bif k == 1 then
     (Q (.tuple ⟨[(.agg ⟨[(.int IntKind.i64 12), (.string ({ data := #[] }))]⟩), (.pointer none), (.bool false)]⟩) [some (.abs (Abs.pack (Pk.table (MSt.base m))) false), some (.abs (Abs.pack (Pk.table (TblF.nx getQ (MSt.now m) [Value.string key]))) false)])
    else
     (bif k == 2 then
      (Q (.tuple ⟨[(.agg ⟨[(.int IntKind.i64 12), (.string ({ data := #[] }))]⟩), (.pointer none), (.bool false)]⟩) [some (.abs (Abs.pack (Pk.table (MSt.base m))) false), some (.abs (Abs.pack (Pk.table (TblF.nx getQ (MSt.now m) [Value.string key]))) false)])
     else
      (bif k == 3 then
       (Q (.tuple ⟨[(.agg ⟨[(.int IntKind.i64 12), (.string ({ data := #[] }))]⟩), (.pointer none), (.bool false)]⟩) [some (.abs (Abs.pack (Pk.table (MSt.base m))) false), some (.abs (Abs.pack (Pk.table (TblF.nx getQ (MSt.now m) [Value.string key]))) false)])
      else
       (Q (.tuple ⟨[(.agg ⟨[(.int IntKind.i64 0), (.string ({ data := #[] }))]⟩), (.pointer none), (.bool false)]⟩) [some (.abs (Abs.pack (Pk.table (MSt.base m))) false), some (.abs (Abs.pack (Pk.table (TblF.nx getQ (MSt.now m) [Value.string key]))) false)]))))
   else
    (bif k == 1 then
     (Q (.tuple ⟨[(.agg ⟨[(.int IntKind.i64 12), (.string ({ data := #[] }))]⟩), (.pointer none), (.bool false)]⟩) [some (.abs (Abs.pack (Pk.table (MSt.base m))) false), some (.abs (Abs.pack (Pk.table (TblF.nx getQ (MSt.now m) [Value.string key]))) false)])
    else
     (bif k == 2 then
      (Q (.tuple ⟨[(.agg ⟨[(.int IntKind.i64 12), (.string ({ data := #[] }))]⟩), (.pointer none), (.bool false)]⟩) [some (.abs (Abs.pack (Pk.table (MSt.base m))) false), some (.abs (Abs.pack (Pk.table (TblF.nx getQ (MSt.now m) [Value.string key]))) false)])
     else
      (bif k == 3 then
       (Q (.tuple ⟨[(.agg ⟨[(.int IntKind.i64 12), (.string ({ data := #[] }))]⟩), (.pointer none), (.bool false)]⟩) [some (.abs (Abs.pack (Pk.table (MSt.base m))) false), some (.abs (Abs.pack (Pk.table (TblF.nx getQ (MSt.now m) [Value.string key]))) false)])
      else
       (Q (.tuple ⟨[(.agg ⟨[(.int IntKind.i64 0), (.string ({ data := #[] }))]⟩), (.pointer none), (.bool false)]⟩) [some (.abs (Abs.pack (Pk.table (MSt.base m))) false), some (.abs (Abs.pack (Pk.table (TblF.nx getQ (MSt.now m) [Value.string key]))) false)])))))
  else
   (bif k == 3 then
    (bif k == 1 then
     (bif decide (Int.ofNat (ByteArray.size val) > List.getD (MSt.cfg m) 5 0) then
      (Q (.tuple ⟨[(.agg ⟨[(.int IntKind.i64 12), (.string ({ data := #[] }))]⟩), (.pointer none), (.bool false)]⟩) [some (.abs (Abs.pack (Pk.table (MSt.base m))) false), some (.abs (Abs.pack (Pk.table (TblF.nx getQ (MSt.now m) [Value.string key]))) false)])
     else
      (List.length (MSt.ups m) = List.length (MSt.ups { cfg := [List.getD (MSt.cfg m) 0 0, List.getD (MSt.cfg m) 1 0, List.getD (MSt.cfg m) 2 0, List.getD (MSt.cfg m) 3 0, List.getD (MSt.cfg m) 4 0, List.getD (MSt.cfg m) 5 0, List.getD (MSt.cfg m) 6 0], limit := MSt.limit m, base := MSt.base m, now := TblF.nx getQ (MSt.now m) [Value.string key], cost := MSt.cost m, ups := MSt.ups m, state := MSt.state m, planned := MSt.planned m }) ∧ capU = capU) ∧
      (sortedK (MSt.now { cfg := [List.getD (MSt.cfg m) 0 0, List.getD (MSt.cfg m) 1 0, List.getD (MSt.cfg m) 2 0, List.getD (MSt.cfg m) 3 0, List.getD (MSt.cfg m) 4 0, List.getD (MSt.cfg m) 5 0, List.getD (MSt.cfg m) 6 0], limit := MSt.limit m, base := MSt.base m, now := TblF.nx getQ (MSt.now m) [Value.string key], cost := MSt.cost m, ups := MSt.ups m, state := MSt.state m, planned := MSt.planned m }) ∧ List.length (MSt.now { cfg := [List.getD (MSt.cfg m) 0 0, List.getD (MSt.cfg m) 1 0, List.getD (MSt.cfg m) 2 0, List.getD (MSt.cfg m) 3 0, List.getD (MSt.cfg m) 4 0, List.getD (MSt.cfg m) 5 0, List.getD (MSt.cfg m) 6 0], limit := MSt.limit m, base := MSt.base m, now := TblF.nx getQ (MSt.now m) [Value.string key], cost := MSt.cost m, ups := MSt.ups m, state := MSt.state m, planned := MSt.planned m }) < 1000000) ∧
      (((.int IntKind.i64 (MSt.limit m)) : Value) = (.int IntKind.i64 (MSt.limit m))) ∧
      (((.pointer (some ⟨9, 7, none⟩)) : Value) = (.pointer (some ⟨9, 7, none⟩))) ∧
      (((.pointer (some ⟨9, 0, none⟩)) : Value) = (.pointer (some ⟨9, 0, none⟩))) ∧
      (((.pointer (some ⟨9, 0, none⟩)) : Value) = (.pointer (some ⟨9, 0, none⟩))) ∧
      (bif decide (afterV { cfg := [List.getD (MSt.cfg m) 0 0, List.getD (MSt.cfg m) 1 0, List.getD (MSt.cfg m) 2 0, List.getD (MSt.cfg m) 3 0, List.getD (MSt.cfg m) 4 0, List.getD (MSt.cfg m) 5 0, List.getD (MSt.cfg m) 6 0], limit := MSt.limit m, base := MSt.base m, now := TblF.nx getQ (MSt.now m) [Value.string key], cost := MSt.cost m, ups := MSt.ups m, state := MSt.state m, planned := MSt.planned m } true key val > MSt.limit m) then
       (Q (.tuple ⟨[(.agg ⟨[(.int IntKind.i64 4), (.string ({ data := #[] }))]⟩), (.pointer none), (.bool false)]⟩) [some (.abs (Abs.pack (Pk.table (MSt.base { cfg := [List.getD (MSt.cfg m) 0 0, List.getD (MSt.cfg m) 1 0, List.getD (MSt.cfg m) 2 0, List.getD (MSt.cfg m) 3 0, List.getD (MSt.cfg m) 4 0, List.getD (MSt.cfg m) 5 0, List.getD (MSt.cfg m) 6 0], limit := MSt.limit m, base := MSt.base m, now := TblF.nx getQ (MSt.now m) [Value.string key], cost := MSt.cost m, ups := MSt.ups m, state := MSt.state m, planned := MSt.planned m }))) false), some (.abs (Abs.pack (Pk.table (MSt.now { cfg := [List.getD (MSt.cfg m) 0 0, List.getD (MSt.cfg m) 1 0, List.getD (MSt.cfg m) 2 0, List.getD (MSt.cfg m) 3 0, List.getD (MSt.cfg m) 4 0, List.getD (MSt.cfg m) 5 0, List.getD (MSt.cfg m) 6 0], limit := MSt.limit m, base := MSt.base m, now := TblF.nx getQ (MSt.now m) [Value.string key], cost := MSt.cost m, ups := MSt.ups m, state := MSt.state m, planned := MSt.planned m }))) false)])
      else
       (Q (.tuple ⟨[(.agg ⟨[(.int IntKind.i64 0), (.string ({ data := #[] }))]⟩), (.pointer (some ⟨15, 0, none⟩)), (.bool true)]⟩) [some (.abs (Abs.pack (Pk.table (MSt.base { cfg := [List.getD (MSt.cfg m) 0 0, List.getD (MSt.cfg m) 1 0, List.getD (MSt.cfg m) 2 0, List.getD (MSt.cfg m) 3 0, List.getD (MSt.cfg m) 4 0, List.getD (MSt.cfg m) 5 0, List.getD (MSt.cfg m) 6 0], limit := MSt.limit m, base := MSt.base m, now := TblF.nx getQ (MSt.now m) [Value.string key], cost := MSt.cost m, ups := MSt.ups m, state := MSt.state m, planned := MSt.planned m }))) false), some (.abs (Abs.pack (Pk.table (MSt.now { cfg := [List.getD (MSt.cfg m) 0 0, List.getD (MSt.cfg m) 1 0, List.getD (MSt.cfg m) 2 0, List.getD (MSt.cfg m) 3 0, List.getD (MSt.cfg m) 4 0, List.getD (MSt.cfg m) 5 0, List.getD (MSt.cfg m) 6 0], limit := MSt.limit m, base := MSt.base m, now := TblF.nx getQ (MSt.now m) [Value.string key], cost := MSt.cost m, ups := MSt.ups m, state := MSt.state m, planned := MSt.planned m }))) false), some (.cells [(.bool true), (.string key), (.string val)] 0 false)])))
    else
     (bif k == 2 then
      (bif k == 3 then
       (Q (.tuple ⟨[(.agg ⟨[(.int IntKind.i64 0), (.string ({ data := #[] }))]⟩), (.pointer (some ⟨15, 0, none⟩)), (.bool true)]⟩) [some (.abs (Abs.pack (Pk.table (MSt.base m))) false), some (.abs (Abs.pack (Pk.table (TblF.nx getQ (MSt.now m) [Value.string key]))) false), some (.cells [(.bool true), (.string key), (.string val)] 0 false)])
      else
       (bif k == 2 then
        (bif k == 2 then
         (Q (.tuple ⟨[(.agg ⟨[(.int IntKind.i64 0), (.string (Option.getD (atK (MSt.now m) key) { data := #[] }))]⟩), (.pointer none), (.bool false)]⟩) [some (.abs (Abs.pack (Pk.table (MSt.base m))) false), some (.abs (Abs.pack (Pk.table (TblF.nx getQ (MSt.now m) [Value.string key]))) false)])
        else
         (Q (.tuple ⟨[(.agg ⟨[(.int IntKind.i64 0), (.string ({ data := #[] }))]⟩), (.pointer none), (.bool false)]⟩) [some (.abs (Abs.pack (Pk.table (MSt.base m))) false), some (.abs (Abs.pack (Pk.table (TblF.nx getQ (MSt.now m) [Value.string key]))) false)]))
       else
        (bif k == 2 then
         (Q (.tuple ⟨[(.agg ⟨[(.int IntKind.i64 0), (.string (Option.getD (atK (MSt.now m) key) { data := #[] }))]⟩), (.pointer none), (.bool false)]⟩) [some (.abs (Abs.pack (Pk.table (MSt.base m))) false), some (.abs (Abs.pack (Pk.table (TblF.nx getQ (MSt.now m) [Value.string key]))) false)])
        else
         (Q (.tuple ⟨[(.agg ⟨[(.int IntKind.i64 0), (.string ({ data := #[] }))]⟩), (.pointer none), (.bool false)]⟩) [some (.abs (Abs.pack (Pk.table (MSt.base m))) false), some (.abs (Abs.pack (Pk.table (TblF.nx getQ (MSt.now m) [Value.string key]))) false)]))))
     else
      (bif k == 3 then
       (bif k == 3 then
        (Q (.tuple ⟨[(.agg ⟨[(.int IntKind.i64 0), (.string ({ data := #[] }))]⟩), (.pointer (some ⟨15, 0, none⟩)), (.bool true)]⟩) [some (.abs (Abs.pack (Pk.table (MSt.base m))) false), some (.abs (Abs.pack (Pk.table (TblF.nx getQ (MSt.now m) [Value.string key]))) false), some (.cells [(.bool true), (.string key), (.string val)] 0 false)])
       else
        (bif k == 2 then
         (bif k == 2 then
          (Q (.tuple ⟨[(.agg ⟨[(.int IntKind.i64 0), (.string (Option.getD (atK (MSt.now m) key) { data := #[] }))]⟩), (.pointer none), (.bool false)]⟩) [some (.abs (Abs.pack (Pk.table (MSt.base m))) false), some (.abs (Abs.pack (Pk.table (TblF.nx getQ (MSt.now m) [Value.string key]))) false)])
         else
          (Q (.tuple ⟨[(.agg ⟨[(.int IntKind.i64 0), (.string ({ data := #[] }))]⟩), (.pointer none), (.bool false)]⟩) [some (.abs (Abs.pack (Pk.table (MSt.base m))) false), some (.abs (Abs.pack (Pk.table (TblF.nx getQ (MSt.now m) [Value.string key]))) false)]))
        else
         (bif k == 2 then
          (Q (.tuple ⟨[(.agg ⟨[(.int IntKind.i64 0), (.string (Option.getD (atK (MSt.now m) key) { data := #[] }))]⟩), (.pointer none), (.bool false)]⟩) [some (.abs (Abs.pack (Pk.table (MSt.base m))) false), some (.abs (Abs.pack (Pk.table (TblF.nx getQ (MSt.now m) [Value.string key]))) false)])
         else
          (Q (.tuple ⟨[(.agg ⟨[(.int IntKind.i64 0), (.string ({ data := #[] }))]⟩), (.pointer none), (.bool false)]⟩) [some (.abs (Abs.pack (Pk.table (MSt.base m))) false), some (.abs (Abs.pack (Pk.table (TblF.nx getQ (MSt.now m) [Value.string key]))) false)]))))
      else
       (Q (.tuple ⟨[(.agg ⟨[(.int IntKind.i64 0), (.string ({ data := #[] }))]⟩), (.pointer none), (.bool false)]⟩) [some (.abs (Abs.pack (Pk.table (MSt.base m))) false), some (.abs (Abs.pack (Pk.table (TblF.nx getQ (MSt.now m) [Value.string key]))) false)]))))
   else
    (bif k == 1 then
     (bif decide (Int.ofNat (ByteArray.size val) > List.getD (MSt.cfg m) 5 0) then
      (Q (.tuple ⟨[(.agg ⟨[(.int IntKind.i64 12), (.string ({ data := #[] }))]⟩), (.pointer none), (.bool false)]⟩) [some (.abs (Abs.pack (Pk.table (MSt.base m))) false), some (.abs (Abs.pack (Pk.table (TblF.nx getQ (MSt.now m) [Value.string key]))) false)])
     else
      (List.length (MSt.ups m) = List.length (MSt.ups { cfg := [List.getD (MSt.cfg m) 0 0, List.getD (MSt.cfg m) 1 0, List.getD (MSt.cfg m) 2 0, List.getD (MSt.cfg m) 3 0, List.getD (MSt.cfg m) 4 0, List.getD (MSt.cfg m) 5 0, List.getD (MSt.cfg m) 6 0], limit := MSt.limit m, base := MSt.base m, now := TblF.nx getQ (MSt.now m) [Value.string key], cost := MSt.cost m, ups := MSt.ups m, state := MSt.state m, planned := MSt.planned m }) ∧ capU = capU) ∧
      (sortedK (MSt.now { cfg := [List.getD (MSt.cfg m) 0 0, List.getD (MSt.cfg m) 1 0, List.getD (MSt.cfg m) 2 0, List.getD (MSt.cfg m) 3 0, List.getD (MSt.cfg m) 4 0, List.getD (MSt.cfg m) 5 0, List.getD (MSt.cfg m) 6 0], limit := MSt.limit m, base := MSt.base m, now := TblF.nx getQ (MSt.now m) [Value.string key], cost := MSt.cost m, ups := MSt.ups m, state := MSt.state m, planned := MSt.planned m }) ∧ List.length (MSt.now { cfg := [List.getD (MSt.cfg m) 0 0, List.getD (MSt.cfg m) 1 0, List.getD (MSt.cfg m) 2 0, List.getD (MSt.cfg m) 3 0, List.getD (MSt.cfg m) 4 0, List.getD (MSt.cfg m) 5 0, List.getD (MSt.cfg m) 6 0], limit := MSt.limit m, base := MSt.base m, now := TblF.nx getQ (MSt.now m) [Value.string key], cost := MSt.cost m, ups := MSt.ups m, state := MSt.state m, planned := MSt.planned m }) < 1000000) ∧
      (((.int IntKind.i64 (MSt.limit m)) : Value) = (.int IntKind.i64 (MSt.limit m))) ∧
      (((.pointer (some ⟨9, 7, none⟩)) : Value) = (.pointer (some ⟨9, 7, none⟩))) ∧
      (((.pointer (some ⟨9, 0, none⟩)) : Value) = (.pointer (some ⟨9, 0, none⟩))) ∧
      (((.pointer (some ⟨9, 0, none⟩)) : Value) = (.pointer (some ⟨9, 0, none⟩))) ∧
      (bif decide (afterV { cfg := [List.getD (MSt.cfg m) 0 0, List.getD (MSt.cfg m) 1 0, List.getD (MSt.cfg m) 2 0, List.getD (MSt.cfg m) 3 0, List.getD (MSt.cfg m) 4 0, List.getD (MSt.cfg m) 5 0, List.getD (MSt.cfg m) 6 0], limit := MSt.limit m, base := MSt.base m, now := TblF.nx getQ (MSt.now m) [Value.string key], cost := MSt.cost m, ups := MSt.ups m, state := MSt.state m, planned := MSt.planned m } false key val > MSt.limit m) then
       (Q (.tuple ⟨[(.agg ⟨[(.int IntKind.i64 4), (.string ({ data := #[] }))]⟩), (.pointer none), (.bool false)]⟩) [some (.abs (Abs.pack (Pk.table (MSt.base { cfg := [List.getD (MSt.cfg m) 0 0, List.getD (MSt.cfg m) 1 0, List.getD (MSt.cfg m) 2 0, List.getD (MSt.cfg m) 3 0, List.getD (MSt.cfg m) 4 0, List.getD (MSt.cfg m) 5 0, List.getD (MSt.cfg m) 6 0], limit := MSt.limit m, base := MSt.base m, now := TblF.nx getQ (MSt.now m) [Value.string key], cost := MSt.cost m, ups := MSt.ups m, state := MSt.state m, planned := MSt.planned m }))) false), some (.abs (Abs.pack (Pk.table (MSt.now { cfg := [List.getD (MSt.cfg m) 0 0, List.getD (MSt.cfg m) 1 0, List.getD (MSt.cfg m) 2 0, List.getD (MSt.cfg m) 3 0, List.getD (MSt.cfg m) 4 0, List.getD (MSt.cfg m) 5 0, List.getD (MSt.cfg m) 6 0], limit := MSt.limit m, base := MSt.base m, now := TblF.nx getQ (MSt.now m) [Value.string key], cost := MSt.cost m, ups := MSt.ups m, state := MSt.state m, planned := MSt.planned m }))) false)])
      else
       (Q (.tuple ⟨[(.agg ⟨[(.int IntKind.i64 0), (.string ({ data := #[] }))]⟩), (.pointer (some ⟨15, 0, none⟩)), (.bool true)]⟩) [some (.abs (Abs.pack (Pk.table (MSt.base { cfg := [List.getD (MSt.cfg m) 0 0, List.getD (MSt.cfg m) 1 0, List.getD (MSt.cfg m) 2 0, List.getD (MSt.cfg m) 3 0, List.getD (MSt.cfg m) 4 0, List.getD (MSt.cfg m) 5 0, List.getD (MSt.cfg m) 6 0], limit := MSt.limit m, base := MSt.base m, now := TblF.nx getQ (MSt.now m) [Value.string key], cost := MSt.cost m, ups := MSt.ups m, state := MSt.state m, planned := MSt.planned m }))) false), some (.abs (Abs.pack (Pk.table (MSt.now { cfg := [List.getD (MSt.cfg m) 0 0, List.getD (MSt.cfg m) 1 0, List.getD (MSt.cfg m) 2 0, List.getD (MSt.cfg m) 3 0, List.getD (MSt.cfg m) 4 0, List.getD (MSt.cfg m) 5 0, List.getD (MSt.cfg m) 6 0], limit := MSt.limit m, base := MSt.base m, now := TblF.nx getQ (MSt.now m) [Value.string key], cost := MSt.cost m, ups := MSt.ups m, state := MSt.state m, planned := MSt.planned m }))) false), some (.cells [(.bool false), (.string key), (.string val)] 0 false)])))
    else
     (bif k == 2 then
      (bif k == 3 then
       (Q (.tuple ⟨[(.agg ⟨[(.int IntKind.i64 0), (.string ({ data := #[] }))]⟩), (.pointer (some ⟨15, 0, none⟩)), (.bool true)]⟩) [some (.abs (Abs.pack (Pk.table (MSt.base m))) false), some (.abs (Abs.pack (Pk.table (TblF.nx getQ (MSt.now m) [Value.string key]))) false), some (.cells [(.bool false), (.string key), (.string val)] 0 false)])
      else
       (bif k == 2 then
        (bif k == 2 then
         (Q (.tuple ⟨[(.agg ⟨[(.int IntKind.i64 0), (.string (Option.getD (atK (MSt.now m) key) { data := #[] }))]⟩), (.pointer none), (.bool false)]⟩) [some (.abs (Abs.pack (Pk.table (MSt.base m))) false), some (.abs (Abs.pack (Pk.table (TblF.nx getQ (MSt.now m) [Value.string key]))) false)])
        else
         (Q (.tuple ⟨[(.agg ⟨[(.int IntKind.i64 0), (.string ({ data := #[] }))]⟩), (.pointer none), (.bool false)]⟩) [some (.abs (Abs.pack (Pk.table (MSt.base m))) false), some (.abs (Abs.pack (Pk.table (TblF.nx getQ (MSt.now m) [Value.string key]))) false)]))
       else
        (bif k == 2 then
         (Q (.tuple ⟨[(.agg ⟨[(.int IntKind.i64 0), (.string (Option.getD (atK (MSt.now m) key) { data := #[] }))]⟩), (.pointer none), (.bool false)]⟩) [some (.abs (Abs.pack (Pk.table (MSt.base m))) false), some (.abs (Abs.pack (Pk.table (TblF.nx getQ (MSt.now m) [Value.string key]))) false)])
        else
         (Q (.tuple ⟨[(.agg ⟨[(.int IntKind.i64 0), (.string ({ data := #[] }))]⟩), (.pointer none), (.bool false)]⟩) [some (.abs (Abs.pack (Pk.table (MSt.base m))) false), some (.abs (Abs.pack (Pk.table (TblF.nx getQ (MSt.now m) [Value.string key]))) false)]))))
     else
      (bif k == 3 then
       (bif k == 3 then
        (Q (.tuple ⟨[(.agg ⟨[(.int IntKind.i64 0), (.string ({ data := #[] }))]⟩), (.pointer (some ⟨15, 0, none⟩)), (.bool true)]⟩) [some (.abs (Abs.pack (Pk.table (MSt.base m))) false), some (.abs (Abs.pack (Pk.table (TblF.nx getQ (MSt.now m) [Value.string key]))) false), some (.cells [(.bool false), (.string key), (.string val)] 0 false)])
       else
        (bif k == 2 then
         (bif k == 2 then
          (Q (.tuple ⟨[(.agg ⟨[(.int IntKind.i64 0), (.string (Option.getD (atK (MSt.now m) key) { data := #[] }))]⟩), (.pointer none), (.bool false)]⟩) [some (.abs (Abs.pack (Pk.table (MSt.base m))) false), some (.abs (Abs.pack (Pk.table (TblF.nx getQ (MSt.now m) [Value.string key]))) false)])
         else
          (Q (.tuple ⟨[(.agg ⟨[(.int IntKind.i64 0), (.string ({ data := #[] }))]⟩), (.pointer none), (.bool false)]⟩) [some (.abs (Abs.pack (Pk.table (MSt.base m))) false), some (.abs (Abs.pack (Pk.table (TblF.nx getQ (MSt.now m) [Value.string key]))) false)]))
        else
         (bif k == 2 then
          (Q (.tuple ⟨[(.agg ⟨[(.int IntKind.i64 0), (.string (Option.getD (atK (MSt.now m) key) { data := #[] }))]⟩), (.pointer none), (.bool false)]⟩) [some (.abs (Abs.pack (Pk.table (MSt.base m))) false), some (.abs (Abs.pack (Pk.table (TblF.nx getQ (MSt.now m) [Value.string key]))) false)])
         else
          (Q (.tuple ⟨[(.agg ⟨[(.int IntKind.i64 0), (.string ({ data := #[] }))]⟩), (.pointer none), (.bool false)]⟩) [some (.abs (Abs.pack (Pk.table (MSt.base m))) false), some (.abs (Abs.pack (Pk.table (TblF.nx getQ (MSt.now m) [Value.string key]))) false)]))))
      else
       (Q (.tuple ⟨[(.agg ⟨[(.int IntKind.i64 0), (.string ({ data := #[] }))]⟩), (.pointer none), (.bool false)]⟩) [some (.abs (Abs.pack (Pk.table (MSt.base m))) false), some (.abs (Abs.pack (Pk.table (TblF.nx getQ (MSt.now m) [Value.string key]))) false)]))))))
 else
  (((.bool (Option.isSome (atK (MSt.now m) key))) : Value) = (.bool false)) ∧
  (bif decide (Int.ofNat (ByteArray.size key) > List.getD (MSt.cfg m) 4 0) then
   (bif k == 3 then
    (bif k == 1 then
     (Q (.tuple ⟨[(.agg ⟨[(.int IntKind.i64 12), (.string ({ data := #[] }))]⟩), (.pointer none), (.bool false)]⟩) [some (.abs (Abs.pack (Pk.table (MSt.base m))) false), some (.abs (Abs.pack (Pk.table (TblF.nx getQ (MSt.now m) [Value.string key]))) false)])
    else
     (bif k == 2 then
      (Q (.tuple ⟨[(.agg ⟨[(.int IntKind.i64 12), (.string ({ data := #[] }))]⟩), (.pointer none), (.bool false)]⟩) [some (.abs (Abs.pack (Pk.table (MSt.base m))) false), some (.abs (Abs.pack (Pk.table (TblF.nx getQ (MSt.now m) [Value.string key]))) false)])
     else
      (bif k == 3 then
       (Q (.tuple ⟨[(.agg ⟨[(.int IntKind.i64 12), (.string ({ data := #[] }))]⟩), (.pointer none), (.bool false)]⟩) [some (.abs (Abs.pack (Pk.table (MSt.base m))) false), some (.abs (Abs.pack (Pk.table (TblF.nx getQ (MSt.now m) [Value.string key]))) false)])
      else
       (Q (.tuple ⟨[(.agg ⟨[(.int IntKind.i64 0), (.string ({ data := #[] }))]⟩), (.pointer none), (.bool false)]⟩) [some (.abs (Abs.pack (Pk.table (MSt.base m))) false), some (.abs (Abs.pack (Pk.table (TblF.nx getQ (MSt.now m) [Value.string key]))) false)]))))
   else
    (bif k == 1 then
     (Q (.tuple ⟨[(.agg ⟨[(.int IntKind.i64 12), (.string ({ data := #[] }))]⟩), (.pointer none), (.bool false)]⟩) [some (.abs (Abs.pack (Pk.table (MSt.base m))) false), some (.abs (Abs.pack (Pk.table (TblF.nx getQ (MSt.now m) [Value.string key]))) false)])
    else
     (bif k == 2 then
      (Q (.tuple ⟨[(.agg ⟨[(.int IntKind.i64 12), (.string ({ data := #[] }))]⟩), (.pointer none), (.bool false)]⟩) [some (.abs (Abs.pack (Pk.table (MSt.base m))) false), some (.abs (Abs.pack (Pk.table (TblF.nx getQ (MSt.now m) [Value.string key]))) false)])
     else
      (bif k == 3 then
       (Q (.tuple ⟨[(.agg ⟨[(.int IntKind.i64 12), (.string ({ data := #[] }))]⟩), (.pointer none), (.bool false)]⟩) [some (.abs (Abs.pack (Pk.table (MSt.base m))) false), some (.abs (Abs.pack (Pk.table (TblF.nx getQ (MSt.now m) [Value.string key]))) false)])
      else
       (Q (.tuple ⟨[(.agg ⟨[(.int IntKind.i64 0), (.string ({ data := #[] }))]⟩), (.pointer none), (.bool false)]⟩) [some (.abs (Abs.pack (Pk.table (MSt.base m))) false), some (.abs (Abs.pack (Pk.table (TblF.nx getQ (MSt.now m) [Value.string key]))) false)])))))
  else
   (bif k == 3 then
    (bif k == 1 then
     (bif decide (Int.ofNat (ByteArray.size val) > List.getD (MSt.cfg m) 5 0) then
      (Q (.tuple ⟨[(.agg ⟨[(.int IntKind.i64 12), (.string ({ data := #[] }))]⟩), (.pointer none), (.bool false)]⟩) [some (.abs (Abs.pack (Pk.table (MSt.base m))) false), some (.abs (Abs.pack (Pk.table (TblF.nx getQ (MSt.now m) [Value.string key]))) false)])
     else
      (List.length (MSt.ups m) = List.length (MSt.ups { cfg := [List.getD (MSt.cfg m) 0 0, List.getD (MSt.cfg m) 1 0, List.getD (MSt.cfg m) 2 0, List.getD (MSt.cfg m) 3 0, List.getD (MSt.cfg m) 4 0, List.getD (MSt.cfg m) 5 0, List.getD (MSt.cfg m) 6 0], limit := MSt.limit m, base := MSt.base m, now := TblF.nx getQ (MSt.now m) [Value.string key], cost := MSt.cost m, ups := MSt.ups m, state := MSt.state m, planned := MSt.planned m }) ∧ capU = capU) ∧
      (sortedK (MSt.now { cfg := [List.getD (MSt.cfg m) 0 0, List.getD (MSt.cfg m) 1 0, List.getD (MSt.cfg m) 2 0, List.getD (MSt.cfg m) 3 0, List.getD (MSt.cfg m) 4 0, List.getD (MSt.cfg m) 5 0, List.getD (MSt.cfg m) 6 0], limit := MSt.limit m, base := MSt.base m, now := TblF.nx getQ (MSt.now m) [Value.string key], cost := MSt.cost m, ups := MSt.ups m, state := MSt.state m, planned := MSt.planned m }) ∧ List.length (MSt.now { cfg := [List.getD (MSt.cfg m) 0 0, List.getD (MSt.cfg m) 1 0, List.getD (MSt.cfg m) 2 0, List.getD (MSt.cfg m) 3 0, List.getD (MSt.cfg m) 4 0, List.getD (MSt.cfg m) 5 0, List.getD (MSt.cfg m) 6 0], limit := MSt.limit m, base := MSt.base m, now := TblF.nx getQ (MSt.now m) [Value.string key], cost := MSt.cost m, ups := MSt.ups m, state := MSt.state m, planned := MSt.planned m }) < 1000000) ∧
      (((.int IntKind.i64 (MSt.limit m)) : Value) = (.int IntKind.i64 (MSt.limit m))) ∧
      (((.pointer (some ⟨9, 7, none⟩)) : Value) = (.pointer (some ⟨9, 7, none⟩))) ∧
      (((.pointer (some ⟨9, 0, none⟩)) : Value) = (.pointer (some ⟨9, 0, none⟩))) ∧
      (((.pointer (some ⟨9, 0, none⟩)) : Value) = (.pointer (some ⟨9, 0, none⟩))) ∧
      (bif decide (afterV { cfg := [List.getD (MSt.cfg m) 0 0, List.getD (MSt.cfg m) 1 0, List.getD (MSt.cfg m) 2 0, List.getD (MSt.cfg m) 3 0, List.getD (MSt.cfg m) 4 0, List.getD (MSt.cfg m) 5 0, List.getD (MSt.cfg m) 6 0], limit := MSt.limit m, base := MSt.base m, now := TblF.nx getQ (MSt.now m) [Value.string key], cost := MSt.cost m, ups := MSt.ups m, state := MSt.state m, planned := MSt.planned m } true key val > MSt.limit m) then
       (Q (.tuple ⟨[(.agg ⟨[(.int IntKind.i64 4), (.string ({ data := #[] }))]⟩), (.pointer none), (.bool false)]⟩) [some (.abs (Abs.pack (Pk.table (MSt.base { cfg := [List.getD (MSt.cfg m) 0 0, List.getD (MSt.cfg m) 1 0, List.getD (MSt.cfg m) 2 0, List.getD (MSt.cfg m) 3 0, List.getD (MSt.cfg m) 4 0, List.getD (MSt.cfg m) 5 0, List.getD (MSt.cfg m) 6 0], limit := MSt.limit m, base := MSt.base m, now := TblF.nx getQ (MSt.now m) [Value.string key], cost := MSt.cost m, ups := MSt.ups m, state := MSt.state m, planned := MSt.planned m }))) false), some (.abs (Abs.pack (Pk.table (MSt.now { cfg := [List.getD (MSt.cfg m) 0 0, List.getD (MSt.cfg m) 1 0, List.getD (MSt.cfg m) 2 0, List.getD (MSt.cfg m) 3 0, List.getD (MSt.cfg m) 4 0, List.getD (MSt.cfg m) 5 0, List.getD (MSt.cfg m) 6 0], limit := MSt.limit m, base := MSt.base m, now := TblF.nx getQ (MSt.now m) [Value.string key], cost := MSt.cost m, ups := MSt.ups m, state := MSt.state m, planned := MSt.planned m }))) false)])
      else
       (Q (.tuple ⟨[(.agg ⟨[(.int IntKind.i64 0), (.string ({ data := #[] }))]⟩), (.pointer (some ⟨15, 0, none⟩)), (.bool true)]⟩) [some (.abs (Abs.pack (Pk.table (MSt.base { cfg := [List.getD (MSt.cfg m) 0 0, List.getD (MSt.cfg m) 1 0, List.getD (MSt.cfg m) 2 0, List.getD (MSt.cfg m) 3 0, List.getD (MSt.cfg m) 4 0, List.getD (MSt.cfg m) 5 0, List.getD (MSt.cfg m) 6 0], limit := MSt.limit m, base := MSt.base m, now := TblF.nx getQ (MSt.now m) [Value.string key], cost := MSt.cost m, ups := MSt.ups m, state := MSt.state m, planned := MSt.planned m }))) false), some (.abs (Abs.pack (Pk.table (MSt.now { cfg := [List.getD (MSt.cfg m) 0 0, List.getD (MSt.cfg m) 1 0, List.getD (MSt.cfg m) 2 0, List.getD (MSt.cfg m) 3 0, List.getD (MSt.cfg m) 4 0, List.getD (MSt.cfg m) 5 0, List.getD (MSt.cfg m) 6 0], limit := MSt.limit m, base := MSt.base m, now := TblF.nx getQ (MSt.now m) [Value.string key], cost := MSt.cost m, ups := MSt.ups m, state := MSt.state m, planned := MSt.planned m }))) false), some (.cells [(.bool true), (.string key), (.string val)] 0 false)])))
    else
     (bif k == 2 then
      (bif k == 3 then
       (bif k == 2 then
        (Q (.tuple ⟨[(.agg ⟨[(.int IntKind.i64 5), (.string ({ data := #[] }))]⟩), (.pointer none), (.bool false)]⟩) [some (.abs (Abs.pack (Pk.table (MSt.base m))) false), some (.abs (Abs.pack (Pk.table (TblF.nx getQ (MSt.now m) [Value.string key]))) false)])
       else
        (bif k == 2 then
         (Q (.tuple ⟨[(.agg ⟨[(.int IntKind.i64 0), (.string (Option.getD (atK (MSt.now m) key) { data := #[] }))]⟩), (.pointer none), (.bool false)]⟩) [some (.abs (Abs.pack (Pk.table (MSt.base m))) false), some (.abs (Abs.pack (Pk.table (TblF.nx getQ (MSt.now m) [Value.string key]))) false)])
        else
         (Q (.tuple ⟨[(.agg ⟨[(.int IntKind.i64 0), (.string ({ data := #[] }))]⟩), (.pointer none), (.bool false)]⟩) [some (.abs (Abs.pack (Pk.table (MSt.base m))) false), some (.abs (Abs.pack (Pk.table (TblF.nx getQ (MSt.now m) [Value.string key]))) false)])))
      else
       (bif k == 2 then
        (Q (.tuple ⟨[(.agg ⟨[(.int IntKind.i64 5), (.string ({ data := #[] }))]⟩), (.pointer none), (.bool false)]⟩) [some (.abs (Abs.pack (Pk.table (MSt.base m))) false), some (.abs (Abs.pack (Pk.table (TblF.nx getQ (MSt.now m) [Value.string key]))) false)])
       else
        (bif k == 2 then
         (Q (.tuple ⟨[(.agg ⟨[(.int IntKind.i64 0), (.string (Option.getD (atK (MSt.now m) key) { data := #[] }))]⟩), (.pointer none), (.bool false)]⟩) [some (.abs (Abs.pack (Pk.table (MSt.base m))) false), some (.abs (Abs.pack (Pk.table (TblF.nx getQ (MSt.now m) [Value.string key]))) false)])
        else
         (Q (.tuple ⟨[(.agg ⟨[(.int IntKind.i64 0), (.string ({ data := #[] }))]⟩), (.pointer none), (.bool false)]⟩) [some (.abs (Abs.pack (Pk.table (MSt.base m))) false), some (.abs (Abs.pack (Pk.table (TblF.nx getQ (MSt.now m) [Value.string key]))) false)]))))
     else
      (bif k == 3 then
       (bif k == 3 then
        (bif k == 2 then
         (Q (.tuple ⟨[(.agg ⟨[(.int IntKind.i64 5), (.string ({ data := #[] }))]⟩), (.pointer none), (.bool false)]⟩) [some (.abs (Abs.pack (Pk.table (MSt.base m))) false), some (.abs (Abs.pack (Pk.table (TblF.nx getQ (MSt.now m) [Value.string key]))) false)])
        else
         (bif k == 2 then
          (Q (.tuple ⟨[(.agg ⟨[(.int IntKind.i64 0), (.string (Option.getD (atK (MSt.now m) key) { data := #[] }))]⟩), (.pointer none), (.bool false)]⟩) [some (.abs (Abs.pack (Pk.table (MSt.base m))) false), some (.abs (Abs.pack (Pk.table (TblF.nx getQ (MSt.now m) [Value.string key]))) false)])
         else
          (Q (.tuple ⟨[(.agg ⟨[(.int IntKind.i64 0), (.string ({ data := #[] }))]⟩), (.pointer none), (.bool false)]⟩) [some (.abs (Abs.pack (Pk.table (MSt.base m))) false), some (.abs (Abs.pack (Pk.table (TblF.nx getQ (MSt.now m) [Value.string key]))) false)])))
       else
        (bif k == 2 then
         (Q (.tuple ⟨[(.agg ⟨[(.int IntKind.i64 5), (.string ({ data := #[] }))]⟩), (.pointer none), (.bool false)]⟩) [some (.abs (Abs.pack (Pk.table (MSt.base m))) false), some (.abs (Abs.pack (Pk.table (TblF.nx getQ (MSt.now m) [Value.string key]))) false)])
        else
         (bif k == 2 then
          (Q (.tuple ⟨[(.agg ⟨[(.int IntKind.i64 0), (.string (Option.getD (atK (MSt.now m) key) { data := #[] }))]⟩), (.pointer none), (.bool false)]⟩) [some (.abs (Abs.pack (Pk.table (MSt.base m))) false), some (.abs (Abs.pack (Pk.table (TblF.nx getQ (MSt.now m) [Value.string key]))) false)])
         else
          (Q (.tuple ⟨[(.agg ⟨[(.int IntKind.i64 0), (.string ({ data := #[] }))]⟩), (.pointer none), (.bool false)]⟩) [some (.abs (Abs.pack (Pk.table (MSt.base m))) false), some (.abs (Abs.pack (Pk.table (TblF.nx getQ (MSt.now m) [Value.string key]))) false)]))))
      else
       (Q (.tuple ⟨[(.agg ⟨[(.int IntKind.i64 0), (.string ({ data := #[] }))]⟩), (.pointer none), (.bool false)]⟩) [some (.abs (Abs.pack (Pk.table (MSt.base m))) false), some (.abs (Abs.pack (Pk.table (TblF.nx getQ (MSt.now m) [Value.string key]))) false)]))))
   else
    (bif k == 1 then
     (bif decide (Int.ofNat (ByteArray.size val) > List.getD (MSt.cfg m) 5 0) then
      (Q (.tuple ⟨[(.agg ⟨[(.int IntKind.i64 12), (.string ({ data := #[] }))]⟩), (.pointer none), (.bool false)]⟩) [some (.abs (Abs.pack (Pk.table (MSt.base m))) false), some (.abs (Abs.pack (Pk.table (TblF.nx getQ (MSt.now m) [Value.string key]))) false)])
     else
      (List.length (MSt.ups m) = List.length (MSt.ups { cfg := [List.getD (MSt.cfg m) 0 0, List.getD (MSt.cfg m) 1 0, List.getD (MSt.cfg m) 2 0, List.getD (MSt.cfg m) 3 0, List.getD (MSt.cfg m) 4 0, List.getD (MSt.cfg m) 5 0, List.getD (MSt.cfg m) 6 0], limit := MSt.limit m, base := MSt.base m, now := TblF.nx getQ (MSt.now m) [Value.string key], cost := MSt.cost m, ups := MSt.ups m, state := MSt.state m, planned := MSt.planned m }) ∧ capU = capU) ∧
      (sortedK (MSt.now { cfg := [List.getD (MSt.cfg m) 0 0, List.getD (MSt.cfg m) 1 0, List.getD (MSt.cfg m) 2 0, List.getD (MSt.cfg m) 3 0, List.getD (MSt.cfg m) 4 0, List.getD (MSt.cfg m) 5 0, List.getD (MSt.cfg m) 6 0], limit := MSt.limit m, base := MSt.base m, now := TblF.nx getQ (MSt.now m) [Value.string key], cost := MSt.cost m, ups := MSt.ups m, state := MSt.state m, planned := MSt.planned m }) ∧ List.length (MSt.now { cfg := [List.getD (MSt.cfg m) 0 0, List.getD (MSt.cfg m) 1 0, List.getD (MSt.cfg m) 2 0, List.getD (MSt.cfg m) 3 0, List.getD (MSt.cfg m) 4 0, List.getD (MSt.cfg m) 5 0, List.getD (MSt.cfg m) 6 0], limit := MSt.limit m, base := MSt.base m, now := TblF.nx getQ (MSt.now m) [Value.string key], cost := MSt.cost m, ups := MSt.ups m, state := MSt.state m, planned := MSt.planned m }) < 1000000) ∧
      (((.int IntKind.i64 (MSt.limit m)) : Value) = (.int IntKind.i64 (MSt.limit m))) ∧
      (((.pointer (some ⟨9, 7, none⟩)) : Value) = (.pointer (some ⟨9, 7, none⟩))) ∧
      (((.pointer (some ⟨9, 0, none⟩)) : Value) = (.pointer (some ⟨9, 0, none⟩))) ∧
      (((.pointer (some ⟨9, 0, none⟩)) : Value) = (.pointer (some ⟨9, 0, none⟩))) ∧
      (bif decide (afterV { cfg := [List.getD (MSt.cfg m) 0 0, List.getD (MSt.cfg m) 1 0, List.getD (MSt.cfg m) 2 0, List.getD (MSt.cfg m) 3 0, List.getD (MSt.cfg m) 4 0, List.getD (MSt.cfg m) 5 0, List.getD (MSt.cfg m) 6 0], limit := MSt.limit m, base := MSt.base m, now := TblF.nx getQ (MSt.now m) [Value.string key], cost := MSt.cost m, ups := MSt.ups m, state := MSt.state m, planned := MSt.planned m } false key val > MSt.limit m) then
       (Q (.tuple ⟨[(.agg ⟨[(.int IntKind.i64 4), (.string ({ data := #[] }))]⟩), (.pointer none), (.bool false)]⟩) [some (.abs (Abs.pack (Pk.table (MSt.base { cfg := [List.getD (MSt.cfg m) 0 0, List.getD (MSt.cfg m) 1 0, List.getD (MSt.cfg m) 2 0, List.getD (MSt.cfg m) 3 0, List.getD (MSt.cfg m) 4 0, List.getD (MSt.cfg m) 5 0, List.getD (MSt.cfg m) 6 0], limit := MSt.limit m, base := MSt.base m, now := TblF.nx getQ (MSt.now m) [Value.string key], cost := MSt.cost m, ups := MSt.ups m, state := MSt.state m, planned := MSt.planned m }))) false), some (.abs (Abs.pack (Pk.table (MSt.now { cfg := [List.getD (MSt.cfg m) 0 0, List.getD (MSt.cfg m) 1 0, List.getD (MSt.cfg m) 2 0, List.getD (MSt.cfg m) 3 0, List.getD (MSt.cfg m) 4 0, List.getD (MSt.cfg m) 5 0, List.getD (MSt.cfg m) 6 0], limit := MSt.limit m, base := MSt.base m, now := TblF.nx getQ (MSt.now m) [Value.string key], cost := MSt.cost m, ups := MSt.ups m, state := MSt.state m, planned := MSt.planned m }))) false)])
      else
       (Q (.tuple ⟨[(.agg ⟨[(.int IntKind.i64 0), (.string ({ data := #[] }))]⟩), (.pointer (some ⟨15, 0, none⟩)), (.bool true)]⟩) [some (.abs (Abs.pack (Pk.table (MSt.base { cfg := [List.getD (MSt.cfg m) 0 0, List.getD (MSt.cfg m) 1 0, List.getD (MSt.cfg m) 2 0, List.getD (MSt.cfg m) 3 0, List.getD (MSt.cfg m) 4 0, List.getD (MSt.cfg m) 5 0, List.getD (MSt.cfg m) 6 0], limit := MSt.limit m, base := MSt.base m, now := TblF.nx getQ (MSt.now m) [Value.string key], cost := MSt.cost m, ups := MSt.ups m, state := MSt.state m, planned := MSt.planned m }))) false), some (.abs (Abs.pack (Pk.table (MSt.now { cfg := [List.getD (MSt.cfg m) 0 0, List.getD (MSt.cfg m) 1 0, List.getD (MSt.cfg m) 2 0, List.getD (MSt.cfg m) 3 0, List.getD (MSt.cfg m) 4 0, List.getD (MSt.cfg m) 5 0, List.getD (MSt.cfg m) 6 0], limit := MSt.limit m, base := MSt.base m, now := TblF.nx getQ (MSt.now m) [Value.string key], cost := MSt.cost m, ups := MSt.ups m, state := MSt.state m, planned := MSt.planned m }))) false), some (.cells [(.bool false), (.string key), (.string val)] 0 false)])))
    else
     (bif k == 2 then
      (bif k == 3 then
       (bif k == 2 then
        (Q (.tuple ⟨[(.agg ⟨[(.int IntKind.i64 5), (.string ({ data := #[] }))]⟩), (.pointer none), (.bool false)]⟩) [some (.abs (Abs.pack (Pk.table (MSt.base m))) false), some (.abs (Abs.pack (Pk.table (TblF.nx getQ (MSt.now m) [Value.string key]))) false)])
       else
        (bif k == 2 then
         (Q (.tuple ⟨[(.agg ⟨[(.int IntKind.i64 0), (.string (Option.getD (atK (MSt.now m) key) { data := #[] }))]⟩), (.pointer none), (.bool false)]⟩) [some (.abs (Abs.pack (Pk.table (MSt.base m))) false), some (.abs (Abs.pack (Pk.table (TblF.nx getQ (MSt.now m) [Value.string key]))) false)])
        else
         (Q (.tuple ⟨[(.agg ⟨[(.int IntKind.i64 0), (.string ({ data := #[] }))]⟩), (.pointer none), (.bool false)]⟩) [some (.abs (Abs.pack (Pk.table (MSt.base m))) false), some (.abs (Abs.pack (Pk.table (TblF.nx getQ (MSt.now m) [Value.string key]))) false)])))
      else
       (bif k == 2 then
        (Q (.tuple ⟨[(.agg ⟨[(.int IntKind.i64 5), (.string ({ data := #[] }))]⟩), (.pointer none), (.bool false)]⟩) [some (.abs (Abs.pack (Pk.table (MSt.base m))) false), some (.abs (Abs.pack (Pk.table (TblF.nx getQ (MSt.now m) [Value.string key]))) false)])
       else
        (bif k == 2 then
         (Q (.tuple ⟨[(.agg ⟨[(.int IntKind.i64 0), (.string (Option.getD (atK (MSt.now m) key) { data := #[] }))]⟩), (.pointer none), (.bool false)]⟩) [some (.abs (Abs.pack (Pk.table (MSt.base m))) false), some (.abs (Abs.pack (Pk.table (TblF.nx getQ (MSt.now m) [Value.string key]))) false)])
        else
         (Q (.tuple ⟨[(.agg ⟨[(.int IntKind.i64 0), (.string ({ data := #[] }))]⟩), (.pointer none), (.bool false)]⟩) [some (.abs (Abs.pack (Pk.table (MSt.base m))) false), some (.abs (Abs.pack (Pk.table (TblF.nx getQ (MSt.now m) [Value.string key]))) false)]))))
     else
      (bif k == 3 then
       (bif k == 3 then
        (bif k == 2 then
         (Q (.tuple ⟨[(.agg ⟨[(.int IntKind.i64 5), (.string ({ data := #[] }))]⟩), (.pointer none), (.bool false)]⟩) [some (.abs (Abs.pack (Pk.table (MSt.base m))) false), some (.abs (Abs.pack (Pk.table (TblF.nx getQ (MSt.now m) [Value.string key]))) false)])
        else
         (bif k == 2 then
          (Q (.tuple ⟨[(.agg ⟨[(.int IntKind.i64 0), (.string (Option.getD (atK (MSt.now m) key) { data := #[] }))]⟩), (.pointer none), (.bool false)]⟩) [some (.abs (Abs.pack (Pk.table (MSt.base m))) false), some (.abs (Abs.pack (Pk.table (TblF.nx getQ (MSt.now m) [Value.string key]))) false)])
         else
          (Q (.tuple ⟨[(.agg ⟨[(.int IntKind.i64 0), (.string ({ data := #[] }))]⟩), (.pointer none), (.bool false)]⟩) [some (.abs (Abs.pack (Pk.table (MSt.base m))) false), some (.abs (Abs.pack (Pk.table (TblF.nx getQ (MSt.now m) [Value.string key]))) false)])))
       else
        (bif k == 2 then
         (Q (.tuple ⟨[(.agg ⟨[(.int IntKind.i64 5), (.string ({ data := #[] }))]⟩), (.pointer none), (.bool false)]⟩) [some (.abs (Abs.pack (Pk.table (MSt.base m))) false), some (.abs (Abs.pack (Pk.table (TblF.nx getQ (MSt.now m) [Value.string key]))) false)])
        else
         (bif k == 2 then
          (Q (.tuple ⟨[(.agg ⟨[(.int IntKind.i64 0), (.string (Option.getD (atK (MSt.now m) key) { data := #[] }))]⟩), (.pointer none), (.bool false)]⟩) [some (.abs (Abs.pack (Pk.table (MSt.base m))) false), some (.abs (Abs.pack (Pk.table (TblF.nx getQ (MSt.now m) [Value.string key]))) false)])
         else
          (Q (.tuple ⟨[(.agg ⟨[(.int IntKind.i64 0), (.string ({ data := #[] }))]⟩), (.pointer none), (.bool false)]⟩) [some (.abs (Abs.pack (Pk.table (MSt.base m))) false), some (.abs (Abs.pack (Pk.table (TblF.nx getQ (MSt.now m) [Value.string key]))) false)]))))
      else
       (Q (.tuple ⟨[(.agg ⟨[(.int IntKind.i64 0), (.string ({ data := #[] }))]⟩), (.pointer none), (.bool false)]⟩) [some (.abs (Abs.pack (Pk.table (MSt.base m))) false), some (.abs (Abs.pack (Pk.table (TblF.nx getQ (MSt.now m) [Value.string key]))) false)])))))))) := by kernel_rfl
end Go.Ideal

set_option maxRecDepth 1000000
namespace Go.Ideal
open Go.Proofs
theorem pfAn_ok : PfOk XAn pfAn := pf_cons (fun _ _ _ h => footPf_ok (by kernel_rfl) h) (pf_cons (fun _ _ _ h => footPf_ok (by kernel_rfl) h) (pf_cons (fun _ _ _ h => footPf_ok (by kernel_rfl) h) (pf_cons (fun _ _ _ h => footPf_ok (by kernel_rfl) h) (pf_cons (fun _ _ _ h => footPf_ok (by kernel_rfl) h)
  (pf_cons (fun _ _ _ h => footPf_ok (by kernel_rfl) h) (pf_cons (fun _ _ _ h => footPf_ok (by kernel_rfl) h) (noPf_ok _)))))))
theorem allAn : AllOk Tryz.prog tab42 fsAn := AllOk.cons iok_afterG allM
def e0 : ByteArray := { data := #[] }
def bigK (m : MSt) (key : ByteArray) : Bool := decide (Int.ofNat (ByteArray.size key) > List.getD m.cfg 4 0)
def bigV (m : MSt) (val : ByteArray) : Bool := decide (Int.ofNat (ByteArray.size val) > List.getD m.cfg 5 0)
noncomputable def hasK (m : MSt) (key : ByteArray) : Bool := Option.isSome (atK m.now key)
noncomputable def overL (m : MSt) (key val : ByteArray) : Bool := decide (afterV m false key val > m.limit)
noncomputable def ansE (m : MSt) (k : Int) (key val : ByteArray) : Int × ByteArray × Bool :=
  bif k == 1 then (bif bigK m key || bigV m val then (12, e0, false) else bif overL m key val then (4, e0, false) else (0, e0, true))
  else bif k == 2 then (bif bigK m key then (12, e0, false) else bif hasK m key then (0, (atK m.now key).getD e0, false) else (5, e0, false))
  else bif k == 3 then (bif bigK m key then (12, e0, false) else bif hasK m key then (0, e0, true) else (0, e0, false))
  else (0, e0, false)
noncomputable def upCell (k : Int) (key val : ByteArray) : IObj := .cells [.bool (k == 3), .string key, .string val] 0 false
noncomputable def ansG (m : MSt) (rest : List Value) : GT :=
  match rest with
  | [.agg ⟨[.int .i64 k, .int .i64 _, .int .i64 _, .string key, .string val]⟩] => .ask (sortedK m.now ∧ m.now.length < 1000000)
    (.test (ansE m k key val).2.2 (.ret ⟨.tuple ⟨[.agg ⟨[.int .i64 (ansE m k key val).1, .string (ansE m k key val).2.1]⟩, .pointer (some ⟨13, 0, none⟩), .bool true]⟩, [none, some (tbP m.base), some (tbP m.now), none], [upCell k key val]⟩)
      (.ret ⟨.tuple ⟨[.agg ⟨[.int .i64 (ansE m k key val).1, .string (ansE m k key val).2.1]⟩, .pointer none, .bool false]⟩, [none, some (tbP m.base), some (tbP m.now), none], []⟩))
  | _ => .fail
def AnsQ (m : MSt) (k : Int) (key val : ByteArray) (v : Value) (os : List (Option IObj)) : Prop :=
  ∃ e s, ((ansE m k key val = (e, s, true) ∧ v = .tuple ⟨[.agg ⟨[.int .i64 e, .string s]⟩, .pointer (some ⟨15, 0, none⟩), .bool true]⟩ ∧ os = [some (tbP m.base), some (tbP m.now), some (upCell k key val)]) ∨
    (ansE m k key val = (e, s, false) ∧ v = .tuple ⟨[.agg ⟨[.int .i64 e, .string s]⟩, .pointer none, .bool false]⟩ ∧ os = [some (tbP m.base), some (tbP m.now)]))
theorem ans_vc (m : MSt) (k a b : Int) (key val : ByteArray) (hs : sortedK m.now) (hn : m.now.length < 1000000) :
    VCp XAn pfAn f_model_Model_answer [10, 11] (AnsQ m k key val) 2000 (st f_model_Model_answer 97 [p9, opV k a b key val] (putL ⟨.leaf, 9⟩ (mdR m))) := by
  have hok : TblF.ok getQ (MSt.now m) [Value.string key] := ⟨hs, by omega, key, rfl⟩
  rw [vc_ans]
  refine ⟨hok, ?_⟩
  have hc : (k == 1) = true ∧ (k == 2) = false ∧ (k == 3) = false ∨ (k == 1) = false ∧ (k == 2) = true ∧ (k == 3) = false ∨ (k == 1) = false ∧ (k == 2) = false ∧ (k == 3) = true ∨ (k == 1) = false ∧ (k == 2) = false ∧ (k == 3) = false := by
    simp only [beq_iff_eq, beq_eq_false_iff_ne, ne_eq]
    omega
  rcases hc with ⟨c1, c2, c3⟩ | ⟨c1, c2, c3⟩ | ⟨c1, c2, c3⟩ | ⟨c1, c2, c3⟩
  all_goals
    simp only [c1, c2, c3, cond_true, cond_false]
    repeat' first
      | exact ⟨_, _, .inl ⟨by unfold ansE; simp only [*, cond_true, cond_false, Bool.or_true, Bool.or_false, Bool.true_or] <;> rfl, rfl, by unfold upCell; simp only [*] <;> rfl⟩⟩
      | exact ⟨_, _, .inr ⟨by unfold ansE; simp only [*, cond_true, cond_false, Bool.or_true, Bool.or_false, Bool.true_or] <;> rfl, rfl, rfl⟩⟩
      | refine bif_both (b := hasK m key) (fun _ => ?_) (fun _ => ?_)
      | refine bif_both (b := bigK m key) (fun _ => ?_) (fun _ => ?_)
      | refine bif_both (b := bigV m val) (fun _ => ?_) (fun _ => ?_)
      | refine bif_both (b := overL m key val) (fun _ => ?_) (fun _ => ?_)
      | refine ⟨by first | exact trivial | exact ⟨trivial, trivial⟩ | exact rfl | exact ⟨hs, hn⟩ | exact congrArg Value.bool (by assumption), ?_⟩
end Go.Ideal

set_option maxRecDepth 1000000
namespace Go.Ideal
open Go.Proofs
theorem iok_ansG : IOk Tryz.prog tab42 f_model_Model_answer (footF tab42 9 mutsR (mdgG ansG)) := by
  refine iok_mdgR allAn (by kernel_rfl) (n := 97) fun m rest x hx => ?_
  unfold ansG at hx
  split at hx
  · rename_i k a b key val
    simp only [GT.run] at hx
    split at hx
    · rename_i hok
      obtain ⟨hs, hn⟩ := hok
      refine ⟨by simp, ?_⟩
      have hE : EndsN XAn 13 f_model_Model_answer (fun v H => AnsQ m k key val v (([10, 11] ++ refsN 4 v).map H.get)) (st f_model_Model_answer 97 [p9, opV k a b key val] (putL ⟨.leaf, 9⟩ (mdR m))) :=
        EndsIn.toN (VCp_ok pfAn_ok (ids := [10, 11]) (Q := AnsQ m k key val) 2000 _ (ans_vc m k a b key val hs hn))
      refine hE.toD.mono ?_
      rintro v H ⟨e, s, ⟨h1, rfl, h⟩ | ⟨h1, rfl, h⟩⟩
      · rw [h1] at hx
        cases hx
        have h : [H.get 10, H.get 11, H.get 15] = _ := h
        simp only [List.cons.injEq, and_true] at h
        refine tm_read (ns := [15]) h.1 h.2.1 rfl (by simp) (fun b hb => by simp at hb; omega) rfl (fun j b o hj ho => ?_)
        cases j with
        | zero => cases hj; cases ho; exact ⟨_, rfl, h.2.2⟩
        | succ j => cases hj
      · rw [h1] at hx
        cases hx
        have h : [H.get 10, H.get 11] = _ := h
        simp only [List.cons.injEq, and_true] at h
        exact tm_read (ns := []) h.1 h.2 rfl List.nodup_nil (fun b hb => by cases hb) rfl (fun j b o hj => by cases hj)
    · cases hx
  · cases hx
noncomputable def accG (m : MSt) (rest : List Value) : GT :=
  match rest with
  | [.agg ⟨[.bool del, .string key, .string val]⟩] => .ask (sortedK m.now ∧ m.now.length < 1000000 ∧ m.ups.length < 1000000)
    (.ret ⟨.tuple ⟨[]⟩, [some (.cells (mCells (accM m del key val) 10 11 (.slice (some ⟨13, 0, some 0⟩) (m.ups.length + 1) capU)) 0 false), some (tbP m.base), some (tbP (accM m del key val).now), none], [.vec kUp (m.ups ++ [(del, key, val)]) false]⟩)
  | _ => .fail
theorem iok_accG : IOk Tryz.prog tab42 f_model_Model_accept (footF tab42 9 mutsW (mdgG accG)) := by
  refine iok_mdgW allM (by kernel_rfl) (n := 26) fun m rest x hx => ?_
  unfold accG at hx
  split at hx
  · rename_i del key val
    simp only [GT.run] at hx
    split at hx
    · rename_i hok
      obtain ⟨hs, hn, hu⟩ := hok
      cases hx
      refine ⟨by simp, ?_⟩
      refine (accU_run m del key val hs hn hu).toD.mono ?_
      rintro v H ⟨rfl, h⟩
      have h : [H.get 9, H.get 10, H.get 11, H.get 17] = _ := h
      simp only [List.cons.injEq, and_true] at h
      obtain ⟨g9, g10, g11, g17⟩ := h
      refine ⟨[17], by simp, fun b hb => by simp at hb; omega, rfl, rfl, fun j b o hj ho => ?_, fun j o hj _ ho => ?_⟩
      · cases j with
        | zero => cases hj; cases ho; exact ⟨_, rfl, g17⟩
        | succ j => cases hj
      · cases j with
        | zero => cases ho; exact ⟨_, rfl, by rw [g9]; unfold capU; rfl⟩
        | succ j => cases j with
          | zero => cases ho; exact ⟨_, rfl, g10⟩
          | succ j => cases j with
            | zero => cases ho; exact ⟨_, rfl, g11⟩
            | succ j => cases j with
              | zero => cases ho
              | succ j => omega
    · cases hx
  · cases hx
end Go.Ideal

--CASTS
--SUB { cfg := [c0, c1, c2, c3, c4, c5, c6], limit := lim, base := bs, now := nw, cost := cost, ups := ups, state := 0, planned := false } => (mX c0 c1 c2 c3 c4 c5 c6 lim bs nw cost ups)
--SUB { cfg := [c0, c1, c2, c3, c4, c5, c6], limit := lim, base := MSt.base (mX c0 c1 c2 c3 c4 c5 c6 lim bs nw cost ups), now := MSt.now (mX c0 c1 c2 c3 c4 c5 c6 lim bs nw cost ups), cost := cost, ups := ups, state := 0, planned := false } => (mX c0 c1 c2 c3 c4 c5 c6 lim bs nw cost ups)
--SUB ([SK.bool] ++ ([SK.str] ++ ([SK.str] ++ []))) => kUp
set_option maxRecDepth 1000000
namespace Go.Ideal
open Go.Proofs
noncomputable abbrev fsD : List (FuncId × IFun) := (f_op_Check, qChk.F) :: (f_model_Model_answer, footF tab42 9 mutsR (mdgG ansG)) :: (f_model_Model_accept, footF tab42 9 mutsW (mdgG accG)) :: fsM
noncomputable def XD : Ctx := ctxI Tryz.prog tab42 fsD
noncomputable def pfD : Pf := fun g => bif Nat.beq g f_op_Check then some pChk else (fun g => bif Nat.beq g f_model_Model_answer then some (footPf tab42 9 mutsR (mdgG ansG)) else (fun g => bif Nat.beq g f_model_Model_accept then some (footPf tab42 9 mutsW (mdgG accG)) else pfM g) g) g
abbrev mX (c0 c1 c2 c3 c4 c5 c6 lim : Int) (bs nw : List (ByteArray × ByteArray)) (cost : Int) (ups : List (Bool × ByteArray × ByteArray)) : MSt := ⟨[c0, c1, c2, c3, c4, c5, c6], lim, bs, nw, cost, ups, 0, false⟩
noncomputable def mdX (c0 c1 c2 c3 c4 c5 c6 lim : Int) (bs nw : List (ByteArray × ByteArray)) (cost : Int) (ups : List (Bool × ByteArray × ByteArray)) : List IObj :=
  [.cells [.int .i64 c0, .int .i64 c1, .int .i64 c2, .int .i64 c3, .int .i64 c4, .int .i64 c5, .int .i64 c6, .int .i64 lim, .pointer (some ⟨10, 0, none⟩), .pointer (some ⟨11, 0, none⟩), .int .i64 cost, .slice (some ⟨12, 0, some 0⟩) ups.length capU, .pointer none, .int .i64 0, .bool false] 0 false,
    .abs (.pack (.table bs)) false, .abs (.pack (.table nw)) false, .vec kUp ups false]
noncomputable def resV (e : Int) (s : ByteArray) : Value := .agg ⟨[.int .i64 e, .string s]⟩
abbrev idsD : List Nat := [9, 10, 11, 12, 18, 19, 20]
noncomputable abbrev vc_do_0 (c0 : Int) (c1 : Int) (c2 : Int) (c3 : Int) (c4 : Int) (c5 : Int) (c6 : Int) (lim : Int) (bs : List (ByteArray × ByteArray)) (nw : List (ByteArray × ByteArray)) (cost : Int) (ups : List (Bool × ByteArray × ByteArray)) (k : Int) (key : ByteArray) (val : ByteArray) : IObj := (.cells [(.int IntKind.i64 (List.getD (MSt.cfg (accM (mX c0 c1 c2 c3 c4 c5 c6 lim bs nw cost ups) (k == 3) key val)) 0 0)), (.int IntKind.i64 (List.getD (MSt.cfg (accM (mX c0 c1 c2 c3 c4 c5 c6 lim bs nw cost ups) (k == 3) key val)) 1 0)), (.int IntKind.i64 (List.getD (MSt.cfg (accM (mX c0 c1 c2 c3 c4 c5 c6 lim bs nw cost ups) (k == 3) key val)) 2 0)), (.int IntKind.i64 (List.getD (MSt.cfg (accM (mX c0 c1 c2 c3 c4 c5 c6 lim bs nw cost ups) (k == 3) key val)) 3 0)), (.int IntKind.i64 (List.getD (MSt.cfg (accM (mX c0 c1 c2 c3 c4 c5 c6 lim bs nw cost ups) (k == 3) key val)) 4 0)), (.int IntKind.i64 (List.getD (MSt.cfg (accM (mX c0 c1 c2 c3 c4 c5 c6 lim bs nw cost ups) (k == 3) key val)) 5 0)), (.int IntKind.i64 (List.getD (MSt.cfg (accM (mX c0 c1 c2 c3 c4 c5 c6 lim bs nw cost ups) (k == 3) key val)) 6 0)), (.int IntKind.i64 (MSt.limit (accM (mX c0 c1 c2 c3 c4 c5 c6 lim bs nw cost ups) (k == 3) key val))), (.pointer (some ⟨10, 0, none⟩)), (.pointer (some ⟨11, 0, none⟩)), (.int IntKind.i64 (MSt.cost (accM (mX c0 c1 c2 c3 c4 c5 c6 lim bs nw cost ups) (k == 3) key val))), (.slice (some ⟨19, 0, (some 0)⟩) (List.length (MSt.ups (mX c0 c1 c2 c3 c4 c5 c6 lim bs nw cost ups)) + 1) 18446744073709551616), (.pointer none), (.int IntKind.i64 (MSt.state (accM (mX c0 c1 c2 c3 c4 c5 c6 lim bs nw cost ups) (k == 3) key val))), (.bool (MSt.planned (accM (mX c0 c1 c2 c3 c4 c5 c6 lim bs nw cost ups) (k == 3) key val)))] 0 false)
noncomputable abbrev vc_do_1 (c0 : Int) (c1 : Int) (c2 : Int) (c3 : Int) (c4 : Int) (c5 : Int) (c6 : Int) (lim : Int) (bs : List (ByteArray × ByteArray)) (nw : List (ByteArray × ByteArray)) (cost : Int) (ups : List (Bool × ByteArray × ByteArray)) (k : Int) (key : ByteArray) (val : ByteArray) : IObj := (.cells [(.int IntKind.i64 (List.getD (MSt.cfg (accM (mX c0 c1 c2 c3 c4 c5 c6 lim bs nw cost ups) (k == 3) key val)) 0 0)), (.int IntKind.i64 (List.getD (MSt.cfg (accM (mX c0 c1 c2 c3 c4 c5 c6 lim bs nw cost ups) (k == 3) key val)) 1 0)), (.int IntKind.i64 (List.getD (MSt.cfg (accM (mX c0 c1 c2 c3 c4 c5 c6 lim bs nw cost ups) (k == 3) key val)) 2 0)), (.int IntKind.i64 (List.getD (MSt.cfg (accM (mX c0 c1 c2 c3 c4 c5 c6 lim bs nw cost ups) (k == 3) key val)) 3 0)), (.int IntKind.i64 (List.getD (MSt.cfg (accM (mX c0 c1 c2 c3 c4 c5 c6 lim bs nw cost ups) (k == 3) key val)) 4 0)), (.int IntKind.i64 (List.getD (MSt.cfg (accM (mX c0 c1 c2 c3 c4 c5 c6 lim bs nw cost ups) (k == 3) key val)) 5 0)), (.int IntKind.i64 (List.getD (MSt.cfg (accM (mX c0 c1 c2 c3 c4 c5 c6 lim bs nw cost ups) (k == 3) key val)) 6 0)), (.int IntKind.i64 (MSt.limit (accM (mX c0 c1 c2 c3 c4 c5 c6 lim bs nw cost ups) (k == 3) key val))), (.pointer (some ⟨20, 0, none⟩)), (.pointer (some ⟨11, 0, none⟩)), (.int IntKind.i64 (MSt.cost (accM (mX c0 c1 c2 c3 c4 c5 c6 lim bs nw cost ups) (k == 3) key val))), (.slice none 0 0), (.pointer none), (.int IntKind.i64 (MSt.state (accM (mX c0 c1 c2 c3 c4 c5 c6 lim bs nw cost ups) (k == 3) key val))), (.bool (MSt.planned (accM (mX c0 c1 c2 c3 c4 c5 c6 lim bs nw cost ups) (k == 3) key val)))] 0 false)
noncomputable abbrev vc_do_2 (c0 : Int) (c1 : Int) (c2 : Int) (c3 : Int) (c4 : Int) (c5 : Int) (c6 : Int) (lim : Int) (cost : Int) (ups : List (Bool × ByteArray × ByteArray)) : IObj := (.cells [(.int IntKind.i64 c0), (.int IntKind.i64 c1), (.int IntKind.i64 c2), (.int IntKind.i64 c3), (.int IntKind.i64 c4), (.int IntKind.i64 c5), (.int IntKind.i64 c6), (.int IntKind.i64 lim), (.pointer (some ⟨10, 0, none⟩)), (.pointer (some ⟨11, 0, none⟩)), (.int IntKind.i64 cost), (.slice (some ⟨12, 0, (some 0)⟩) (List.length ups) 18446744073709551616), (.pointer none), (.int IntKind.i64 0), (.bool false)] 0 false)
noncomputable abbrev vc_do_3 (c0 : Int) (c1 : Int) (c2 : Int) (c3 : Int) (c4 : Int) (c5 : Int) (c6 : Int) (lim : Int) (cost : Int) : IObj := (.cells [(.int IntKind.i64 c0), (.int IntKind.i64 c1), (.int IntKind.i64 c2), (.int IntKind.i64 c3), (.int IntKind.i64 c4), (.int IntKind.i64 c5), (.int IntKind.i64 c6), (.int IntKind.i64 lim), (.pointer (some ⟨18, 0, none⟩)), (.pointer (some ⟨11, 0, none⟩)), (.int IntKind.i64 cost), (.slice none 0 0), (.pointer none), (.int IntKind.i64 0), (.bool false)] 0 false)
noncomputable abbrev vc_do_4 (c0 : Int) (c1 : Int) (c2 : Int) (c3 : Int) (c4 : Int) (c5 : Int) (c6 : Int) (lim : Int) (bs : List (ByteArray × ByteArray)) (nw : List (ByteArray × ByteArray)) (cost : Int) (ups : List (Bool × ByteArray × ByteArray)) (k : Int) (key : ByteArray) (val : ByteArray) : IObj := (.cells [(.int IntKind.i64 (Prod.fst (ansE (mX c0 c1 c2 c3 c4 c5 c6 lim bs nw cost ups) k key val))), (.string (Prod.fst (Prod.snd (ansE (mX c0 c1 c2 c3 c4 c5 c6 lim bs nw cost ups) k key val))))] 0 false)
theorem vc_do (c0 c1 c2 c3 c4 c5 c6 lim : Int) (bs nw : List (ByteArray × ByteArray)) (cost : Int) (ups : List (Bool × ByteArray × ByteArray)) (k a b : Int) (key val : ByteArray) (e : Int) (sv : ByteArray) (Q : Value → List (Option IObj) → Prop) : VCp XD pfD f_model_Model_Do idsD Q 2000 (st f_model_Model_Do 66 [p9, opV k a b key val, resV e sv] (putL ⟨.leaf, 9⟩ (mdX c0 c1 c2 c3 c4 c5 c6 lim bs nw cost ups))) = (
 (ChkOk k a b key val) ∧
 (bif chkE k a b key val != 0 then
  (bif e == 2 && (ByteArray.toList sv == ByteArray.toList { data := #[] } && true) then
   (Q (.int IntKind.i64 0) [some (vc_do_2 c0 c1 c2 c3 c4 c5 c6 lim cost ups), some (.abs (Abs.pack (Pk.table bs)) false), some (.abs (Abs.pack (Pk.table nw)) false), some (.vec kUp ups false), none, none, none])
  else
   (Q (.int IntKind.i64 7) [some (vc_do_2 c0 c1 c2 c3 c4 c5 c6 lim cost ups), some (.abs (Abs.pack (Pk.table bs)) false), some (.abs (Abs.pack (Pk.table nw)) false), some (.vec kUp ups false), none, none, none]))
 else
  (bif k == 7 then
   (bif e == 0 && (ByteArray.toList sv == ByteArray.toList { data := #[] } && true) then
    (bif a == 0 then
     (bif decide (a > 0) then
      (Q (.int IntKind.i64 0) [some (.cells [(.int IntKind.i64 c0), (.int IntKind.i64 c1), (.int IntKind.i64 c2), (.int IntKind.i64 c3), (.int IntKind.i64 c4), (.int IntKind.i64 c5), (.int IntKind.i64 c6), (.int IntKind.i64 lim), (.pointer (some ⟨10, 0, none⟩)), (.pointer (some ⟨11, 0, none⟩)), (.int IntKind.i64 cost), (.slice (some ⟨12, 0, (some 0)⟩) (List.length ups) 18446744073709551616), (.pointer none), (.int IntKind.i64 1), (.bool true)] 0 false), some (.abs (Abs.pack (Pk.table bs)) false), some (.abs (Abs.pack (Pk.table nw)) false), some (.vec kUp ups false), none, none, none])
     else
      (Q (.int IntKind.i64 0) [some (.cells [(.int IntKind.i64 c0), (.int IntKind.i64 c1), (.int IntKind.i64 c2), (.int IntKind.i64 c3), (.int IntKind.i64 c4), (.int IntKind.i64 c5), (.int IntKind.i64 c6), (.int IntKind.i64 lim), (.pointer (some ⟨10, 0, none⟩)), (.pointer (some ⟨11, 0, none⟩)), (.int IntKind.i64 cost), (.slice (some ⟨12, 0, (some 0)⟩) (List.length ups) 18446744073709551616), (.pointer none), (.int IntKind.i64 1), (.bool false)] 0 false), some (.abs (Abs.pack (Pk.table bs)) false), some (.abs (Abs.pack (Pk.table nw)) false), some (.vec kUp ups false), none, none, none]))
    else
     (bif decide (a > 0) then
      (Q (.int IntKind.i64 0) [some (.cells [(.int IntKind.i64 c0), (.int IntKind.i64 c1), (.int IntKind.i64 c2), (.int IntKind.i64 c3), (.int IntKind.i64 c4), (.int IntKind.i64 c5), (.int IntKind.i64 c6), (.int IntKind.i64 lim), (.pointer (some ⟨10, 0, none⟩)), (.pointer (some ⟨11, 0, none⟩)), (.int IntKind.i64 cost), (.slice (some ⟨12, 0, (some 0)⟩) (List.length ups) 18446744073709551616), (.pointer none), (.int IntKind.i64 0), (.bool true)] 0 false), some (.abs (Abs.pack (Pk.table bs)) false), some (.abs (Abs.pack (Pk.table nw)) false), some (.vec kUp ups false), none, none, none])
     else
      (Q (.int IntKind.i64 0) [some (vc_do_2 c0 c1 c2 c3 c4 c5 c6 lim cost ups), some (.abs (Abs.pack (Pk.table bs)) false), some (.abs (Abs.pack (Pk.table nw)) false), some (.vec kUp ups false), none, none, none])))
   else
    (Q (.int IntKind.i64 7) [some (vc_do_2 c0 c1 c2 c3 c4 c5 c6 lim cost ups), some (.abs (Abs.pack (Pk.table bs)) false), some (.abs (Abs.pack (Pk.table nw)) false), some (.vec kUp ups false), none, none, none]))
  else
   (List.length ups = List.length (MSt.ups (mX c0 c1 c2 c3 c4 c5 c6 lim bs nw cost ups)) ∧ capU = capU) ∧
   (sortedK (MSt.now (mX c0 c1 c2 c3 c4 c5 c6 lim bs nw cost ups)) ∧ List.length (MSt.now (mX c0 c1 c2 c3 c4 c5 c6 lim bs nw cost ups)) < 1000000) ∧
   (bif Prod.snd (Prod.snd (ansE (mX c0 c1 c2 c3 c4 c5 c6 lim bs nw cost ups) k key val)) then
    (bif ByteArray.toList sv == ByteArray.toList { data := #[] } then
     (bif e == 13 then
      (bif Prod.fst (ansE (mX c0 c1 c2 c3 c4 c5 c6 lim bs nw cost ups) k key val) != 0 then
       (Q (.int IntKind.i64 7) [some (vc_do_2 c0 c1 c2 c3 c4 c5 c6 lim cost ups), some (.abs (Abs.pack (Pk.table (MSt.base (mX c0 c1 c2 c3 c4 c5 c6 lim bs nw cost ups)))) false), some (.abs (Abs.pack (Pk.table (MSt.now (mX c0 c1 c2 c3 c4 c5 c6 lim bs nw cost ups)))) false), some (.vec kUp ups false), some (vc_do_4 c0 c1 c2 c3 c4 c5 c6 lim bs nw cost ups k key val), none, none])
      else
       (bif k == 2 then
        (Q (.int IntKind.i64 7) [some (vc_do_2 c0 c1 c2 c3 c4 c5 c6 lim cost ups), some (.abs (Abs.pack (Pk.table (MSt.base (mX c0 c1 c2 c3 c4 c5 c6 lim bs nw cost ups)))) false), some (.abs (Abs.pack (Pk.table (MSt.now (mX c0 c1 c2 c3 c4 c5 c6 lim bs nw cost ups)))) false), some (.vec kUp ups false), some (vc_do_4 c0 c1 c2 c3 c4 c5 c6 lim bs nw cost ups k key val), none, none])
       else
        (Q (.int IntKind.i64 7) [some (vc_do_2 c0 c1 c2 c3 c4 c5 c6 lim cost ups), some (.abs (Abs.pack (Pk.table (MSt.base (mX c0 c1 c2 c3 c4 c5 c6 lim bs nw cost ups)))) false), some (.abs (Abs.pack (Pk.table (MSt.now (mX c0 c1 c2 c3 c4 c5 c6 lim bs nw cost ups)))) false), some (.vec kUp ups false), some (vc_do_4 c0 c1 c2 c3 c4 c5 c6 lim bs nw cost ups k key val), none, none])))
     else
      (bif ByteArray.toList sv == ByteArray.toList { data := #[] } then
       (bif e == 11 then
        (Q (.int IntKind.i64 0) [some (vc_do_2 c0 c1 c2 c3 c4 c5 c6 lim cost ups), some (.abs (Abs.pack (Pk.table (MSt.base (mX c0 c1 c2 c3 c4 c5 c6 lim bs nw cost ups)))) false), some (.abs (Abs.pack (Pk.table (MSt.now (mX c0 c1 c2 c3 c4 c5 c6 lim bs nw cost ups)))) false), some (.vec kUp ups false), some (vc_do_4 c0 c1 c2 c3 c4 c5 c6 lim bs nw cost ups k key val), none, none])
       else
        (bif !(e == Prod.fst (ansE (mX c0 c1 c2 c3 c4 c5 c6 lim bs nw cost ups) k key val) && (ByteArray.toList sv == ByteArray.toList (Prod.fst (Prod.snd (ansE (mX c0 c1 c2 c3 c4 c5 c6 lim bs nw cost ups) k key val))) && true)) then
         (Q (.int IntKind.i64 7) [some (vc_do_2 c0 c1 c2 c3 c4 c5 c6 lim cost ups), some (.abs (Abs.pack (Pk.table (MSt.base (mX c0 c1 c2 c3 c4 c5 c6 lim bs nw cost ups)))) false), some (.abs (Abs.pack (Pk.table (MSt.now (mX c0 c1 c2 c3 c4 c5 c6 lim bs nw cost ups)))) false), some (.vec kUp ups false), some (vc_do_4 c0 c1 c2 c3 c4 c5 c6 lim bs nw cost ups k key val), none, none])
        else
         (List.length ups = List.length (MSt.ups (mX c0 c1 c2 c3 c4 c5 c6 lim bs nw cost ups)) ∧ capU = capU) ∧
         (sortedK (MSt.now (mX c0 c1 c2 c3 c4 c5 c6 lim bs nw cost ups)) ∧ List.length (MSt.now (mX c0 c1 c2 c3 c4 c5 c6 lim bs nw cost ups)) < 1000000 ∧ List.length (MSt.ups (mX c0 c1 c2 c3 c4 c5 c6 lim bs nw cost ups)) < 1000000) ∧
         (bif k == 4 then
          (List.length (MSt.now (accM (mX c0 c1 c2 c3 c4 c5 c6 lim bs nw cost ups) (k == 3) key val)) < 1000000) ∧
          (Q (.int IntKind.i64 0) [some (vc_do_1 c0 c1 c2 c3 c4 c5 c6 lim bs nw cost ups k key val), some (.abs (Abs.pack (Pk.table (MSt.base (mX c0 c1 c2 c3 c4 c5 c6 lim bs nw cost ups)))) false), some (.abs (Abs.pack (Pk.table (MSt.now (accM (mX c0 c1 c2 c3 c4 c5 c6 lim bs nw cost ups) (k == 3) key val)))) false), none, some (vc_do_4 c0 c1 c2 c3 c4 c5 c6 lim bs nw cost ups k key val), some (.vec ([SK.bool, SK.str, SK.str]) (MSt.ups (mX c0 c1 c2 c3 c4 c5 c6 lim bs nw cost ups) ++ [(k == 3, key, val)]) false), some (.abs (Abs.pack (Pk.table (MSt.now (accM (mX c0 c1 c2 c3 c4 c5 c6 lim bs nw cost ups) (k == 3) key val)))) false)])
         else
          (bif k == 8 then
           (List.length (MSt.now (accM (mX c0 c1 c2 c3 c4 c5 c6 lim bs nw cost ups) (k == 3) key val)) < 1000000) ∧
           (Q (.int IntKind.i64 0) [some (vc_do_1 c0 c1 c2 c3 c4 c5 c6 lim bs nw cost ups k key val), some (.abs (Abs.pack (Pk.table (MSt.base (mX c0 c1 c2 c3 c4 c5 c6 lim bs nw cost ups)))) false), some (.abs (Abs.pack (Pk.table (MSt.now (accM (mX c0 c1 c2 c3 c4 c5 c6 lim bs nw cost ups) (k == 3) key val)))) false), none, some (vc_do_4 c0 c1 c2 c3 c4 c5 c6 lim bs nw cost ups k key val), some (.vec ([SK.bool, SK.str, SK.str]) (MSt.ups (mX c0 c1 c2 c3 c4 c5 c6 lim bs nw cost ups) ++ [(k == 3, key, val)]) false), some (.abs (Abs.pack (Pk.table (MSt.now (accM (mX c0 c1 c2 c3 c4 c5 c6 lim bs nw cost ups) (k == 3) key val)))) false)])
          else
           (Q (.int IntKind.i64 0) [some (vc_do_0 c0 c1 c2 c3 c4 c5 c6 lim bs nw cost ups k key val), some (.abs (Abs.pack (Pk.table (MSt.base (mX c0 c1 c2 c3 c4 c5 c6 lim bs nw cost ups)))) false), some (.abs (Abs.pack (Pk.table (MSt.now (accM (mX c0 c1 c2 c3 c4 c5 c6 lim bs nw cost ups) (k == 3) key val)))) false), none, some (vc_do_4 c0 c1 c2 c3 c4 c5 c6 lim bs nw cost ups k key val), some (.vec ([SK.bool, SK.str, SK.str]) (MSt.ups (mX c0 c1 c2 c3 c4 c5 c6 lim bs nw cost ups) ++ [(k == 3, key, val)]) false), none])))))
      else
       (bif !(e == Prod.fst (ansE (mX c0 c1 c2 c3 c4 c5 c6 lim bs nw cost ups) k key val) && (ByteArray.toList sv == ByteArray.toList (Prod.fst (Prod.snd (ansE (mX c0 c1 c2 c3 c4 c5 c6 lim bs nw cost ups) k key val))) && true)) then
        (Q (.int IntKind.i64 7) [some (vc_do_2 c0 c1 c2 c3 c4 c5 c6 lim cost ups), some (.abs (Abs.pack (Pk.table (MSt.base (mX c0 c1 c2 c3 c4 c5 c6 lim bs nw cost ups)))) false), some (.abs (Abs.pack (Pk.table (MSt.now (mX c0 c1 c2 c3 c4 c5 c6 lim bs nw cost ups)))) false), some (.vec kUp ups false), some (vc_do_4 c0 c1 c2 c3 c4 c5 c6 lim bs nw cost ups k key val), none, none])
       else
        (List.length ups = List.length (MSt.ups (mX c0 c1 c2 c3 c4 c5 c6 lim bs nw cost ups)) ∧ capU = capU) ∧
        (sortedK (MSt.now (mX c0 c1 c2 c3 c4 c5 c6 lim bs nw cost ups)) ∧ List.length (MSt.now (mX c0 c1 c2 c3 c4 c5 c6 lim bs nw cost ups)) < 1000000 ∧ List.length (MSt.ups (mX c0 c1 c2 c3 c4 c5 c6 lim bs nw cost ups)) < 1000000) ∧
        (bif k == 4 then
         (List.length (MSt.now (accM (mX c0 c1 c2 c3 c4 c5 c6 lim bs nw cost ups) (k == 3) key val)) < 1000000) ∧
         (Q (.int IntKind.i64 0) [some (vc_do_1 c0 c1 c2 c3 c4 c5 c6 lim bs nw cost ups k key val), some (.abs (Abs.pack (Pk.table (MSt.base (mX c0 c1 c2 c3 c4 c5 c6 lim bs nw cost ups)))) false), some (.abs (Abs.pack (Pk.table (MSt.now (accM (mX c0 c1 c2 c3 c4 c5 c6 lim bs nw cost ups) (k == 3) key val)))) false), none, some (vc_do_4 c0 c1 c2 c3 c4 c5 c6 lim bs nw cost ups k key val), some (.vec ([SK.bool, SK.str, SK.str]) (MSt.ups (mX c0 c1 c2 c3 c4 c5 c6 lim bs nw cost ups) ++ [(k == 3, key, val)]) false), some (.abs (Abs.pack (Pk.table (MSt.now (accM (mX c0 c1 c2 c3 c4 c5 c6 lim bs nw cost ups) (k == 3) key val)))) false)])
        else
         (bif k == 8 then
          (List.length (MSt.now (accM (mX c0 c1 c2 c3 c4 c5 c6 lim bs nw cost ups) (k == 3) key val)) < 1000000) ∧
          (Q (.int IntKind.i64 0) [some (vc_do_1 c0 c1 c2 c3 c4 c5 c6 lim bs nw cost ups k key val), some (.abs (Abs.pack (Pk.table (MSt.base (mX c0 c1 c2 c3 c4 c5 c6 lim bs nw cost ups)))) false), some (.abs (Abs.pack (Pk.table (MSt.now (accM (mX c0 c1 c2 c3 c4 c5 c6 lim bs nw cost ups) (k == 3) key val)))) false), none, some (vc_do_4 c0 c1 c2 c3 c4 c5 c6 lim bs nw cost ups k key val), some (.vec ([SK.bool, SK.str, SK.str]) (MSt.ups (mX c0 c1 c2 c3 c4 c5 c6 lim bs nw cost ups) ++ [(k == 3, key, val)]) false), some (.abs (Abs.pack (Pk.table (MSt.now (accM (mX c0 c1 c2 c3 c4 c5 c6 lim bs nw cost ups) (k == 3) key val)))) false)])
         else
          (Q (.int IntKind.i64 0) [some (vc_do_0 c0 c1 c2 c3 c4 c5 c6 lim bs nw cost ups k key val), some (.abs (Abs.pack (Pk.table (MSt.base (mX c0 c1 c2 c3 c4 c5 c6 lim bs nw cost ups)))) false), some (.abs (Abs.pack (Pk.table (MSt.now (accM (mX c0 c1 c2 c3 c4 c5 c6 lim bs nw cost ups) (k == 3) key val)))) false), none, some (vc_do_4 c0 c1 c2 c3 c4 c5 c6 lim bs nw cost ups k key val), some (.vec ([SK.bool, SK.str, SK.str]) (MSt.ups (mX c0 c1 c2 c3 c4 c5 c6 lim bs nw cost ups) ++ [(k == 3, key, val)]) false), none]))))))
    else
     (bif ByteArray.toList sv == ByteArray.toList { data := #[] } then
      (bif e == 11 then
       (Q (.int IntKind.i64 0) [some (vc_do_2 c0 c1 c2 c3 c4 c5 c6 lim cost ups), some (.abs (Abs.pack (Pk.table (MSt.base (mX c0 c1 c2 c3 c4 c5 c6 lim bs nw cost ups)))) false), some (.abs (Abs.pack (Pk.table (MSt.now (mX c0 c1 c2 c3 c4 c5 c6 lim bs nw cost ups)))) false), some (.vec kUp ups false), some (vc_do_4 c0 c1 c2 c3 c4 c5 c6 lim bs nw cost ups k key val), none, none])
      else
       (bif !(e == Prod.fst (ansE (mX c0 c1 c2 c3 c4 c5 c6 lim bs nw cost ups) k key val) && (ByteArray.toList sv == ByteArray.toList (Prod.fst (Prod.snd (ansE (mX c0 c1 c2 c3 c4 c5 c6 lim bs nw cost ups) k key val))) && true)) then
        (Q (.int IntKind.i64 7) [some (vc_do_2 c0 c1 c2 c3 c4 c5 c6 lim cost ups), some (.abs (Abs.pack (Pk.table (MSt.base (mX c0 c1 c2 c3 c4 c5 c6 lim bs nw cost ups)))) false), some (.abs (Abs.pack (Pk.table (MSt.now (mX c0 c1 c2 c3 c4 c5 c6 lim bs nw cost ups)))) false), some (.vec kUp ups false), some (vc_do_4 c0 c1 c2 c3 c4 c5 c6 lim bs nw cost ups k key val), none, none])
       else
        (List.length ups = List.length (MSt.ups (mX c0 c1 c2 c3 c4 c5 c6 lim bs nw cost ups)) ∧ capU = capU) ∧
        (sortedK (MSt.now (mX c0 c1 c2 c3 c4 c5 c6 lim bs nw cost ups)) ∧ List.length (MSt.now (mX c0 c1 c2 c3 c4 c5 c6 lim bs nw cost ups)) < 1000000 ∧ List.length (MSt.ups (mX c0 c1 c2 c3 c4 c5 c6 lim bs nw cost ups)) < 1000000) ∧
        (bif k == 4 then
         (List.length (MSt.now (accM (mX c0 c1 c2 c3 c4 c5 c6 lim bs nw cost ups) (k == 3) key val)) < 1000000) ∧
         (Q (.int IntKind.i64 0) [some (vc_do_1 c0 c1 c2 c3 c4 c5 c6 lim bs nw cost ups k key val), some (.abs (Abs.pack (Pk.table (MSt.base (mX c0 c1 c2 c3 c4 c5 c6 lim bs nw cost ups)))) false), some (.abs (Abs.pack (Pk.table (MSt.now (accM (mX c0 c1 c2 c3 c4 c5 c6 lim bs nw cost ups) (k == 3) key val)))) false), none, some (vc_do_4 c0 c1 c2 c3 c4 c5 c6 lim bs nw cost ups k key val), some (.vec ([SK.bool, SK.str, SK.str]) (MSt.ups (mX c0 c1 c2 c3 c4 c5 c6 lim bs nw cost ups) ++ [(k == 3, key, val)]) false), some (.abs (Abs.pack (Pk.table (MSt.now (accM (mX c0 c1 c2 c3 c4 c5 c6 lim bs nw cost ups) (k == 3) key val)))) false)])
        else
         (bif k == 8 then
          (List.length (MSt.now (accM (mX c0 c1 c2 c3 c4 c5 c6 lim bs nw cost ups) (k == 3) key val)) < 1000000) ∧
          (Q (.int IntKind.i64 0) [some (vc_do_1 c0 c1 c2 c3 c4 c5 c6 lim bs nw cost ups k key val), some (.abs (Abs.pack (Pk.table (MSt.base (mX c0 c1 c2 c3 c4 c5 c6 lim bs nw cost ups)))) false), some (.abs (Abs.pack (Pk.table (MSt.now (accM (mX c0 c1 c2 c3 c4 c5 c6 lim bs nw cost ups) (k == 3) key val)))) false), none, some (vc_do_4 c0 c1 c2 c3 c4 c5 c6 lim bs nw cost ups k key val), some (.vec ([SK.bool, SK.str, SK.str]) (MSt.ups (mX c0 c1 c2 c3 c4 c5 c6 lim bs nw cost ups) ++ [(k == 3, key, val)]) false), some (.abs (Abs.pack (Pk.table (MSt.now (accM (mX c0 c1 c2 c3 c4 c5 c6 lim bs nw cost ups) (k == 3) key val)))) false)])
         else
          (Q (.int IntKind.i64 0) [some (vc_do_0 c0 c1 c2 c3 c4 c5 c6 lim bs nw cost ups k key val), some (.abs (Abs.pack (Pk.table (MSt.base (mX c0 c1 c2 c3 c4 c5 c6 lim bs nw cost ups)))) false), some (.abs (Abs.pack (Pk.table (MSt.now (accM (mX c0 c1 c2 c3 c4 c5 c6 lim bs nw cost ups) (k == 3) key val)))) false), none, some (vc_do_4 c0 c1 c2 c3 c4 c5 c6 lim bs nw cost ups k key val), some (.vec ([SK.bool, SK.str, SK.str]) (MSt.ups (mX c0 c1 c2 c3 c4 c5 c6 lim bs nw cost ups) ++ [(k == 3, key, val)]) false), none])))))
     else
      (bif !(e == Prod.fst (ansE (mX c0 c1 c2 c3 c4 c5 c6 lim bs nw cost ups) k key val) && (ByteArray.toList sv == ByteArray.toList (Prod.fst (Prod.snd (ansE (mX c0 c1 c2 c3 c4 c5 c6 lim bs nw cost ups) k key val))) && true)) then
       (Q (.int IntKind.i64 7) [some (vc_do_2 c0 c1 c2 c3 c4 c5 c6 lim cost ups), some (.abs (Abs.pack (Pk.table (MSt.base (mX c0 c1 c2 c3 c4 c5 c6 lim bs nw cost ups)))) false), some (.abs (Abs.pack (Pk.table (MSt.now (mX c0 c1 c2 c3 c4 c5 c6 lim bs nw cost ups)))) false), some (.vec kUp ups false), some (vc_do_4 c0 c1 c2 c3 c4 c5 c6 lim bs nw cost ups k key val), none, none])
      else
       (List.length ups = List.length (MSt.ups (mX c0 c1 c2 c3 c4 c5 c6 lim bs nw cost ups)) ∧ capU = capU) ∧
       (sortedK (MSt.now (mX c0 c1 c2 c3 c4 c5 c6 lim bs nw cost ups)) ∧ List.length (MSt.now (mX c0 c1 c2 c3 c4 c5 c6 lim bs nw cost ups)) < 1000000 ∧ List.length (MSt.ups (mX c0 c1 c2 c3 c4 c5 c6 lim bs nw cost ups)) < 1000000) ∧
       (bif k == 4 then
        (List.length (MSt.now (accM (mX c0 c1 c2 c3 c4 c5 c6 lim bs nw cost ups) (k == 3) key val)) < 1000000) ∧
        (Q (.int IntKind.i64 0) [some (vc_do_1 c0 c1 c2 c3 c4 c5 c6 lim bs nw cost ups k key val), some (.abs (Abs.pack (Pk.table (MSt.base (mX c0 c1 c2 c3 c4 c5 c6 lim bs nw cost ups)))) false), some (.abs (Abs.pack (Pk.table (MSt.now (accM (mX c0 c1 c2 c3 c4 c5 c6 lim bs nw cost ups) (k == 3) key val)))) false), none, some (vc_do_4 c0 c1 c2 c3 c4 c5 c6 lim bs nw cost ups k key val), some (.vec ([SK.bool, SK.str, SK.str]) (MSt.ups (mX c0 c1 c2 c3 c4 c5 c6 lim bs nw cost ups) ++ [(k == 3, key, val)]) false), some (.abs (Abs.pack (Pk.table (MSt.now (accM (mX c0 c1 c2 c3 c4 c5 c6 lim bs nw cost ups) (k == 3) key val)))) false)])
       else
        (bif k == 8 then
         (List.length (MSt.now (accM (mX c0 c1 c2 c3 c4 c5 c6 lim bs nw cost ups) (k == 3) key val)) < 1000000) ∧
         (Q (.int IntKind.i64 0) [some (vc_do_1 c0 c1 c2 c3 c4 c5 c6 lim bs nw cost ups k key val), some (.abs (Abs.pack (Pk.table (MSt.base (mX c0 c1 c2 c3 c4 c5 c6 lim bs nw cost ups)))) false), some (.abs (Abs.pack (Pk.table (MSt.now (accM (mX c0 c1 c2 c3 c4 c5 c6 lim bs nw cost ups) (k == 3) key val)))) false), none, some (vc_do_4 c0 c1 c2 c3 c4 c5 c6 lim bs nw cost ups k key val), some (.vec ([SK.bool, SK.str, SK.str]) (MSt.ups (mX c0 c1 c2 c3 c4 c5 c6 lim bs nw cost ups) ++ [(k == 3, key, val)]) false), some (.abs (Abs.pack (Pk.table (MSt.now (accM (mX c0 c1 c2 c3 c4 c5 c6 lim bs nw cost ups) (k == 3) key val)))) false)])
        else
         (Q (.int IntKind.i64 0) [some (vc_do_0 c0 c1 c2 c3 c4 c5 c6 lim bs nw cost ups k key val), some (.abs (Abs.pack (Pk.table (MSt.base (mX c0 c1 c2 c3 c4 c5 c6 lim bs nw cost ups)))) false), some (.abs (Abs.pack (Pk.table (MSt.now (accM (mX c0 c1 c2 c3 c4 c5 c6 lim bs nw cost ups) (k == 3) key val)))) false), none, some (vc_do_4 c0 c1 c2 c3 c4 c5 c6 lim bs nw cost ups k key val), some (.vec ([SK.bool, SK.str, SK.str]) (MSt.ups (mX c0 c1 c2 c3 c4 c5 c6 lim bs nw cost ups) ++ [(k == 3, key, val)]) false), none]))))))
   else
    (bif ByteArray.toList sv == ByteArray.toList { data := #[] } then
     (bif e == 13 then
      (bif Prod.fst (ansE (mX c0 c1 c2 c3 c4 c5 c6 lim bs nw cost ups) k key val) != 0 then
       (Q (.int IntKind.i64 7) [some (vc_do_2 c0 c1 c2 c3 c4 c5 c6 lim cost ups), some (.abs (Abs.pack (Pk.table (MSt.base (mX c0 c1 c2 c3 c4 c5 c6 lim bs nw cost ups)))) false), some (.abs (Abs.pack (Pk.table (MSt.now (mX c0 c1 c2 c3 c4 c5 c6 lim bs nw cost ups)))) false), some (.vec kUp ups false), none, none, none])
      else
       (bif k == 2 then
        (Q (.int IntKind.i64 7) [some (vc_do_2 c0 c1 c2 c3 c4 c5 c6 lim cost ups), some (.abs (Abs.pack (Pk.table (MSt.base (mX c0 c1 c2 c3 c4 c5 c6 lim bs nw cost ups)))) false), some (.abs (Abs.pack (Pk.table (MSt.now (mX c0 c1 c2 c3 c4 c5 c6 lim bs nw cost ups)))) false), some (.vec kUp ups false), none, none, none])
       else
        (Q (.int IntKind.i64 7) [some (vc_do_2 c0 c1 c2 c3 c4 c5 c6 lim cost ups), some (.abs (Abs.pack (Pk.table (MSt.base (mX c0 c1 c2 c3 c4 c5 c6 lim bs nw cost ups)))) false), some (.abs (Abs.pack (Pk.table (MSt.now (mX c0 c1 c2 c3 c4 c5 c6 lim bs nw cost ups)))) false), some (.vec kUp ups false), none, none, none])))
     else
      (bif ByteArray.toList sv == ByteArray.toList { data := #[] } then
       (bif e == 11 then
        (Q (.int IntKind.i64 7) [some (vc_do_2 c0 c1 c2 c3 c4 c5 c6 lim cost ups), some (.abs (Abs.pack (Pk.table (MSt.base (mX c0 c1 c2 c3 c4 c5 c6 lim bs nw cost ups)))) false), some (.abs (Abs.pack (Pk.table (MSt.now (mX c0 c1 c2 c3 c4 c5 c6 lim bs nw cost ups)))) false), some (.vec kUp ups false), none, none, none])
       else
        (bif !(e == Prod.fst (ansE (mX c0 c1 c2 c3 c4 c5 c6 lim bs nw cost ups) k key val) && (ByteArray.toList sv == ByteArray.toList (Prod.fst (Prod.snd (ansE (mX c0 c1 c2 c3 c4 c5 c6 lim bs nw cost ups) k key val))) && true)) then
         (Q (.int IntKind.i64 7) [some (vc_do_2 c0 c1 c2 c3 c4 c5 c6 lim cost ups), some (.abs (Abs.pack (Pk.table (MSt.base (mX c0 c1 c2 c3 c4 c5 c6 lim bs nw cost ups)))) false), some (.abs (Abs.pack (Pk.table (MSt.now (mX c0 c1 c2 c3 c4 c5 c6 lim bs nw cost ups)))) false), some (.vec kUp ups false), none, none, none])
        else
         (bif k == 4 then
          (List.length (MSt.now (mX c0 c1 c2 c3 c4 c5 c6 lim bs nw cost ups)) < 1000000) ∧
          (Q (.int IntKind.i64 0) [some (vc_do_3 c0 c1 c2 c3 c4 c5 c6 lim cost), some (.abs (Abs.pack (Pk.table (MSt.base (mX c0 c1 c2 c3 c4 c5 c6 lim bs nw cost ups)))) false), some (.abs (Abs.pack (Pk.table (MSt.now (mX c0 c1 c2 c3 c4 c5 c6 lim bs nw cost ups)))) false), some (.vec kUp ups false), some (.abs (Abs.pack (Pk.table (MSt.now (mX c0 c1 c2 c3 c4 c5 c6 lim bs nw cost ups)))) false), none, none])
         else
          (bif k == 8 then
           (List.length (MSt.now (mX c0 c1 c2 c3 c4 c5 c6 lim bs nw cost ups)) < 1000000) ∧
           (Q (.int IntKind.i64 0) [some (vc_do_3 c0 c1 c2 c3 c4 c5 c6 lim cost), some (.abs (Abs.pack (Pk.table (MSt.base (mX c0 c1 c2 c3 c4 c5 c6 lim bs nw cost ups)))) false), some (.abs (Abs.pack (Pk.table (MSt.now (mX c0 c1 c2 c3 c4 c5 c6 lim bs nw cost ups)))) false), some (.vec kUp ups false), some (.abs (Abs.pack (Pk.table (MSt.now (mX c0 c1 c2 c3 c4 c5 c6 lim bs nw cost ups)))) false), none, none])
          else
           (Q (.int IntKind.i64 0) [some (vc_do_2 c0 c1 c2 c3 c4 c5 c6 lim cost ups), some (.abs (Abs.pack (Pk.table (MSt.base (mX c0 c1 c2 c3 c4 c5 c6 lim bs nw cost ups)))) false), some (.abs (Abs.pack (Pk.table (MSt.now (mX c0 c1 c2 c3 c4 c5 c6 lim bs nw cost ups)))) false), some (.vec kUp ups false), none, none, none])))))
      else
       (bif !(e == Prod.fst (ansE (mX c0 c1 c2 c3 c4 c5 c6 lim bs nw cost ups) k key val) && (ByteArray.toList sv == ByteArray.toList (Prod.fst (Prod.snd (ansE (mX c0 c1 c2 c3 c4 c5 c6 lim bs nw cost ups) k key val))) && true)) then
        (Q (.int IntKind.i64 7) [some (vc_do_2 c0 c1 c2 c3 c4 c5 c6 lim cost ups), some (.abs (Abs.pack (Pk.table (MSt.base (mX c0 c1 c2 c3 c4 c5 c6 lim bs nw cost ups)))) false), some (.abs (Abs.pack (Pk.table (MSt.now (mX c0 c1 c2 c3 c4 c5 c6 lim bs nw cost ups)))) false), some (.vec kUp ups false), none, none, none])
       else
        (bif k == 4 then
         (List.length (MSt.now (mX c0 c1 c2 c3 c4 c5 c6 lim bs nw cost ups)) < 1000000) ∧
         (Q (.int IntKind.i64 0) [some (vc_do_3 c0 c1 c2 c3 c4 c5 c6 lim cost), some (.abs (Abs.pack (Pk.table (MSt.base (mX c0 c1 c2 c3 c4 c5 c6 lim bs nw cost ups)))) false), some (.abs (Abs.pack (Pk.table (MSt.now (mX c0 c1 c2 c3 c4 c5 c6 lim bs nw cost ups)))) false), some (.vec kUp ups false), some (.abs (Abs.pack (Pk.table (MSt.now (mX c0 c1 c2 c3 c4 c5 c6 lim bs nw cost ups)))) false), none, none])
        else
         (bif k == 8 then
          (List.length (MSt.now (mX c0 c1 c2 c3 c4 c5 c6 lim bs nw cost ups)) < 1000000) ∧
          (Q (.int IntKind.i64 0) [some (vc_do_3 c0 c1 c2 c3 c4 c5 c6 lim cost), some (.abs (Abs.pack (Pk.table (MSt.base (mX c0 c1 c2 c3 c4 c5 c6 lim bs nw cost ups)))) false), some (.abs (Abs.pack (Pk.table (MSt.now (mX c0 c1 c2 c3 c4 c5 c6 lim bs nw cost ups)))) false), some (.vec kUp ups false), some (.abs (Abs.pack (Pk.table (MSt.now (mX c0 c1 c2 c3 c4 c5 c6 lim bs nw cost ups)))) false), none, none])
         else
          (Q (.int IntKind.i64 0) [some (vc_do_2 c0 c1 c2 c3 c4 c5 c6 lim cost ups), some (.abs (Abs.pack (Pk.table (MSt.base (mX c0 c1 c2 c3 c4 c5 c6 lim bs nw cost ups)))) false), some (.abs (Abs.pack (Pk.table (MSt.now (mX c0 c1 c2 c3 c4 c5 c6 lim bs nw cost ups)))) false), some (.vec kUp ups false), none, none, none]))))))
    else
     (bif ByteArray.toList sv == ByteArray.toList { data := #[] } then
      (bif e == 11 then
       (Q (.int IntKind.i64 7) [some (vc_do_2 c0 c1 c2 c3 c4 c5 c6 lim cost ups), some (.abs (Abs.pack (Pk.table (MSt.base (mX c0 c1 c2 c3 c4 c5 c6 lim bs nw cost ups)))) false), some (.abs (Abs.pack (Pk.table (MSt.now (mX c0 c1 c2 c3 c4 c5 c6 lim bs nw cost ups)))) false), some (.vec kUp ups false), none, none, none])
      else
       (bif !(e == Prod.fst (ansE (mX c0 c1 c2 c3 c4 c5 c6 lim bs nw cost ups) k key val) && (ByteArray.toList sv == ByteArray.toList (Prod.fst (Prod.snd (ansE (mX c0 c1 c2 c3 c4 c5 c6 lim bs nw cost ups) k key val))) && true)) then
        (Q (.int IntKind.i64 7) [some (vc_do_2 c0 c1 c2 c3 c4 c5 c6 lim cost ups), some (.abs (Abs.pack (Pk.table (MSt.base (mX c0 c1 c2 c3 c4 c5 c6 lim bs nw cost ups)))) false), some (.abs (Abs.pack (Pk.table (MSt.now (mX c0 c1 c2 c3 c4 c5 c6 lim bs nw cost ups)))) false), some (.vec kUp ups false), none, none, none])
       else
        (bif k == 4 then
         (List.length (MSt.now (mX c0 c1 c2 c3 c4 c5 c6 lim bs nw cost ups)) < 1000000) ∧
         (Q (.int IntKind.i64 0) [some (vc_do_3 c0 c1 c2 c3 c4 c5 c6 lim cost), some (.abs (Abs.pack (Pk.table (MSt.base (mX c0 c1 c2 c3 c4 c5 c6 lim bs nw cost ups)))) false), some (.abs (Abs.pack (Pk.table (MSt.now (mX c0 c1 c2 c3 c4 c5 c6 lim bs nw cost ups)))) false), some (.vec kUp ups false), some (.abs (Abs.pack (Pk.table (MSt.now (mX c0 c1 c2 c3 c4 c5 c6 lim bs nw cost ups)))) false), none, none])
        else
         (bif k == 8 then
          (List.length (MSt.now (mX c0 c1 c2 c3 c4 c5 c6 lim bs nw cost ups)) < 1000000) ∧
          (Q (.int IntKind.i64 0) [some (vc_do_3 c0 c1 c2 c3 c4 c5 c6 lim cost), some (.abs (Abs.pack (Pk.table (MSt.base (mX c0 c1 c2 c3 c4 c5 c6 lim bs nw cost ups)))) false), some (.abs (Abs.pack (Pk.table (MSt.now (mX c0 c1 c2 c3 c4 c5 c6 lim bs nw cost ups)))) false), some (.vec kUp ups false), some (.abs (Abs.pack (Pk.table (MSt.now (mX c0 c1 c2 c3 c4 c5 c6 lim bs nw cost ups)))) false), none, none])
         else
          (Q (.int IntKind.i64 0) [some (vc_do_2 c0 c1 c2 c3 c4 c5 c6 lim cost ups), some (.abs (Abs.pack (Pk.table (MSt.base (mX c0 c1 c2 c3 c4 c5 c6 lim bs nw cost ups)))) false), some (.abs (Abs.pack (Pk.table (MSt.now (mX c0 c1 c2 c3 c4 c5 c6 lim bs nw cost ups)))) false), some (.vec kUp ups false), none, none, none])))))
     else
      (bif !(e == Prod.fst (ansE (mX c0 c1 c2 c3 c4 c5 c6 lim bs nw cost ups) k key val) && (ByteArray.toList sv == ByteArray.toList (Prod.fst (Prod.snd (ansE (mX c0 c1 c2 c3 c4 c5 c6 lim bs nw cost ups) k key val))) && true)) then
       (Q (.int IntKind.i64 7) [some (vc_do_2 c0 c1 c2 c3 c4 c5 c6 lim cost ups), some (.abs (Abs.pack (Pk.table (MSt.base (mX c0 c1 c2 c3 c4 c5 c6 lim bs nw cost ups)))) false), some (.abs (Abs.pack (Pk.table (MSt.now (mX c0 c1 c2 c3 c4 c5 c6 lim bs nw cost ups)))) false), some (.vec kUp ups false), none, none, none])
      else
       (bif k == 4 then
        (List.length (MSt.now (mX c0 c1 c2 c3 c4 c5 c6 lim bs nw cost ups)) < 1000000) ∧
        (Q (.int IntKind.i64 0) [some (vc_do_3 c0 c1 c2 c3 c4 c5 c6 lim cost), some (.abs (Abs.pack (Pk.table (MSt.base (mX c0 c1 c2 c3 c4 c5 c6 lim bs nw cost ups)))) false), some (.abs (Abs.pack (Pk.table (MSt.now (mX c0 c1 c2 c3 c4 c5 c6 lim bs nw cost ups)))) false), some (.vec kUp ups false), some (.abs (Abs.pack (Pk.table (MSt.now (mX c0 c1 c2 c3 c4 c5 c6 lim bs nw cost ups)))) false), none, none])
       else
        (bif k == 8 then
         (List.length (MSt.now (mX c0 c1 c2 c3 c4 c5 c6 lim bs nw cost ups)) < 1000000) ∧
         (Q (.int IntKind.i64 0) [some (vc_do_3 c0 c1 c2 c3 c4 c5 c6 lim cost), some (.abs (Abs.pack (Pk.table (MSt.base (mX c0 c1 c2 c3 c4 c5 c6 lim bs nw cost ups)))) false), some (.abs (Abs.pack (Pk.table (MSt.now (mX c0 c1 c2 c3 c4 c5 c6 lim bs nw cost ups)))) false), some (.vec kUp ups false), some (.abs (Abs.pack (Pk.table (MSt.now (mX c0 c1 c2 c3 c4 c5 c6 lim bs nw cost ups)))) false), none, none])
        else
         (Q (.int IntKind.i64 0) [some (vc_do_2 c0 c1 c2 c3 c4 c5 c6 lim cost ups), some (.abs (Abs.pack (Pk.table (MSt.base (mX c0 c1 c2 c3 c4 c5 c6 lim bs nw cost ups)))) false), some (.abs (Abs.pack (Pk.table (MSt.now (mX c0 c1 c2 c3 c4 c5 c6 lim bs nw cost ups)))) false), some (.vec kUp ups false), none, none, none])))))))))) := by kernel_rfl
end Go.Ideal

set_option maxRecDepth 1000000
namespace Go.Ideal
open Go.Proofs
theorem pfD_ok : PfOk XD pfD := pf_cons (pChk_ok (by kernel_rfl)) (pf_cons (fun _ _ _ h => footPf_ok (by kernel_rfl) h) (pf_cons (fun _ _ _ h => footPf_ok (by kernel_rfl) h) (pf_cons (fun _ _ _ h => footPf_ok (by kernel_rfl) h) (pf_cons (fun _ _ _ h => footPf_ok (by kernel_rfl) h)
  (pf_cons (fun _ _ _ h => footPf_ok (by kernel_rfl) h) (pf_cons (fun _ _ _ h => footPf_ok (by kernel_rfl) h) (pf_cons (fun _ _ _ h => footPf_ok (by kernel_rfl) h) (pf_cons (fun _ _ _ h => footPf_ok (by kernel_rfl) h) (noPf_ok _)))))))))
theorem allD : AllOk Tryz.prog tab42 fsD := AllOk.cons iok_chk (AllOk.cons iok_ansG (AllOk.cons iok_accG allM))
def isE (s : ByteArray) : Bool := ByteArray.toList s == ByteArray.toList { data := #[] }
def setM (m : MSt) : MSt := { m with base := m.now, ups := [] }
def finM (k : Int) (m : MSt) : MSt := bif k == 4 then setM m else bif k == 8 then setM m else m
noncomputable def doR (m : MSt) (k a b : Int) (key val : ByteArray) (e : Int) (sv : ByteArray) : Option MSt :=
  bif chkE k a b key val != 0 then (bif e == 2 && (isE sv && true) then some m else none)
  else bif k == 7 then none
  else bif (ansE m k key val).2.2 then
    (bif isE sv && e == 13 then none else bif isE sv && e == 11 then some m else bif !(e == (ansE m k key val).1 && (ByteArray.toList sv == ByteArray.toList (ansE m k key val).2.1 && true)) then none else some (finM k (accM m (k == 3) key val)))
  else (bif isE sv && e == 13 then none else bif isE sv && e == 11 then none else bif !(e == (ansE m k key val).1 && (ByteArray.toList sv == ByteArray.toList (ansE m k key val).2.1 && true)) then none else some (finM k m))
inductive DoS (m : MSt) : List (Option IObj) → Prop where
  | same (a b c : Option IObj) : DoS m [some (.cells (mCells m 10 11 (.slice (some ⟨12, 0, some 0⟩) m.ups.length 18446744073709551616)) 0 false), some (tbP m.base), some (tbP m.now), some (.vec kUp m.ups false), a, b, c]
  | acc (a b c : Option IObj) (n : Nat) (h : n = m.ups.length) : DoS m [some (.cells (mCells m 10 11 (.slice (some ⟨19, 0, some 0⟩) n 18446744073709551616)) 0 false), some (tbP m.base), some (tbP m.now), a, b, some (.vec kUp m.ups false), c]
  | set20 (a b c d : Option IObj) (h : m.ups = []) : DoS m [some (.cells (mCells m 20 11 (.slice none 0 0)) 0 false), a, some (tbP m.now), b, c, d, some (tbP m.base)]
  | set18 (a b c d : Option IObj) (h : m.ups = []) : DoS m [some (.cells (mCells m 18 11 (.slice none 0 0)) 0 false), a, some (tbP m.now), b, some (tbP m.base), c, d]
def DoQ (m : MSt) (r : Option MSt) (v : Value) (os : List (Option IObj)) : Prop := (r = none ∧ v = .int .i64 7 ∧ DoS m os) ∨ ∃ m', r = some m' ∧ v = .int .i64 0 ∧ DoS m' os
theorem doN {m : MSt} {r : Option MSt} {os : List (Option IObj)} (h : r = none) (hd : DoS m os) : DoQ m r (.int .i64 7) os := .inl ⟨h, rfl, hd⟩
theorem doY {m : MSt} {r : Option MSt} {os : List (Option IObj)} (m' : MSt) (h : r = some m') (hd : DoS m' os) : DoQ m r (.int .i64 0) os := .inr ⟨m', h, rfl, hd⟩
theorem acc_len (m : MSt) (del : Bool) (key val : ByteArray) (h : m.now.length < 900000) : (accM m del key val).now.length < 1000000 := by
  have h1 : (setK m.now key val).length ≤ m.now.length + 1 := by
    unfold setK
    split
    · rw [List.length_set]; omega
    · simp only [List.length_append, List.length_take, List.length_drop, List.length_cons, List.length_nil]; omega
  have h2 : (delK m.now key).length ≤ m.now.length := by
    unfold delK
    split
    · simp only [List.length_append, List.length_take, List.length_drop]; omega
    · exact Nat.le_refl _
  cases del
  · show (setK m.now key val).length < _; omega
  · show (delK m.now key).length < _; omega
theorem do_vc (c0 c1 c2 c3 c4 c5 c6 lim : Int) (bs nw : List (ByteArray × ByteArray)) (cost : Int) (ups : List (Bool × ByteArray × ByteArray)) (k a b : Int) (key val : ByteArray) (e : Int) (sv : ByteArray)
    (hck : ChkOk k a b key val) (hs : sortedK nw) (hn : nw.length < 900000) (hu : ups.length < 1000000) (hcr : (k == 7) = true → (e == 0 && (ByteArray.toList sv == ByteArray.toList { data := #[] } && true)) = false) :
    VCp XD pfD f_model_Model_Do idsD (DoQ (mX c0 c1 c2 c3 c4 c5 c6 lim bs nw cost ups) (doR (mX c0 c1 c2 c3 c4 c5 c6 lim bs nw cost ups) k a b key val e sv)) 2000 (st f_model_Model_Do 66 [p9, opV k a b key val, resV e sv] (putL ⟨.leaf, 9⟩ (mdX c0 c1 c2 c3 c4 c5 c6 lim bs nw cost ups))) := by
  have hn1 : nw.length < 1000000 := by omega
  rw [vc_do]
  refine ⟨hck, ?_⟩
  refine bif_both (fun _ => bif_both (fun _ => ?_) (fun _ => ?_)) (fun _ => bif_both (fun h7 => ?_) (fun _ => ?_))
  · exact doY _ (by unfold doR finM isE; simp only [*, cond_true] <;> rfl) (.same _ _ _)
  · exact doN (by unfold doR finM isE; simp only [*, cond_true, cond_false] <;> rfl) (.same _ _ _)
  · have h7e := hcr h7
    rw [h7e]
    exact doN (by unfold doR finM isE; simp only [*, cond_true, cond_false] <;> rfl) (.same _ _ _)
  · refine ⟨⟨rfl, rfl⟩, ⟨hs, hn1⟩, ?_⟩
    refine bif_both (fun _ => ?_) (fun _ => ?_)
    all_goals
      repeat' first
        | exact doN (by unfold doR finM isE; simp only [*, cond_true, cond_false] <;> rfl) (.same _ _ _)
        | exact doY (mX c0 c1 c2 c3 c4 c5 c6 lim bs nw cost ups) (by unfold doR finM isE; simp only [*, cond_true, cond_false] <;> rfl) (.same _ _ _)
        | exact doY (accM (mX c0 c1 c2 c3 c4 c5 c6 lim bs nw cost ups) (k == 3) key val) (by unfold doR finM isE; simp only [*, cond_true, cond_false] <;> rfl) (.acc _ _ _ _ (by simp [accM]))
        | exact doY (setM (mX c0 c1 c2 c3 c4 c5 c6 lim bs nw cost ups)) (by unfold doR finM isE; simp only [*, cond_true, cond_false] <;> rfl) (.set18 _ _ _ _ rfl)
        | exact doY (setM (accM (mX c0 c1 c2 c3 c4 c5 c6 lim bs nw cost ups) (k == 3) key val)) (by unfold doR finM isE; simp only [*, cond_true, cond_false] <;> rfl) (.set20 _ _ _ _ rfl)
        | (exfalso; simp_all only [Bool.true_eq_false, Bool.false_eq_true]; done)
        | refine bif_both (fun _ => ?_) (fun _ => ?_)
        | apply And.intro (by first | exact rfl | exact ⟨rfl, rfl⟩ | exact ⟨hs, hn1⟩ | exact ⟨hs, hn1, hu⟩ | exact hn1 | exact acc_len _ _ _ _ hn)
end Go.Ideal

set_option maxRecDepth 1000000
namespace Go.Ideal
open Go.Proofs
theorem capL : (18446744073709551616 : Nat) = capU := by unfold capU; rfl
noncomputable def doQ : MdlF :=
  ⟨fun m rest => ∃ k a b key val e sv, rest = [opV k a b key val, resV e sv] ∧ m.cfg.length = 7 ∧ m.state = 0 ∧ m.planned = false ∧ ChkOk k a b key val ∧ sortedK m.now ∧ m.now.length < 900000 ∧ m.ups.length < 1000000 ∧ ((k == 7) = true → (e == 0 && (ByteArray.toList sv == ByteArray.toList { data := #[] } && true)) = false),
    fun m rest => match rest with
    | [.agg ⟨[.int .i64 k, .int .i64 a, .int .i64 b, .string key, .string val]⟩, .agg ⟨[.int .i64 e, .string sv]⟩] => .int .i64 (bif (doR m k a b key val e sv).isSome then 0 else 7)
    | _ => junk,
    fun m rest => match rest with
    | [.agg ⟨[.int .i64 k, .int .i64 a, .int .i64 b, .string key, .string val]⟩, .agg ⟨[.int .i64 e, .string sv]⟩] => (doR m k a b key val e sv).getD m
    | _ => m⟩
theorem cfg7 {l : List Int} (h : l.length = 7) : ∃ c0 c1 c2 c3 c4 c5 c6, l = [c0, c1, c2, c3, c4, c5, c6] := by
  match l, h with
  | [c0, c1, c2, c3, c4, c5, c6], _ => exact ⟨c0, c1, c2, c3, c4, c5, c6, rfl⟩
theorem tellDo {D : Nat → Prop} {v : Value} {H : IHeap} {m : MSt} (hD : D 9) (h : DoS m [H.get 9, H.get 10, H.get 11, H.get 12, H.get 18, H.get 19, H.get 20]) :
    ∃ v2 H2, (∀ (base : Env) (W0 : World) (μ : Inj) (W : World) (v' : Value), (∀ b, D b → ∃ T, μ b = some T) → VRel μ v v' → HRel base W0 μ H W → ∃ μ2, μ.le μ2 ∧ HRel base W0 μ2 H2 W ∧ VRel μ2 v2 v') ∧ v2 = v ∧ IsMdl H2 m := by
  generalize hos : [H.get 9, H.get 10, H.get 11, H.get 12, H.get 18, H.get 19, H.get 20] = os at h
  cases h with
  | same a b c =>
    simp only [List.cons.injEq, and_true] at hos
    obtain ⟨g9, g10, g11, g12, _⟩ := hos
    exact ⟨v, H, fun base W0 μ W v' _ hv hH => ⟨μ, Inj.le_refl _, hH, hv⟩, rfl, 10, 11, 12, by decide, by decide, by decide, by decide, by decide, by decide, g10, g11, by rw [g9, capL], g12⟩
  | acc a b c n hn =>
    subst hn
    simp only [List.cons.injEq, and_true] at hos
    obtain ⟨g9, g10, g11, _, _, g19, _⟩ := hos
    exact ⟨v, H, fun base W0 μ W v' _ hv hH => ⟨μ, Inj.le_refl _, hH, hv⟩, rfl, 10, 11, 19, by decide, by decide, by decide, by decide, by decide, by decide, g10, g11, by rw [g9, capL], g19⟩
  | set20 a b c d hu =>
    simp only [List.cons.injEq, and_true] at hos
    obtain ⟨g9, _, g11, _, _, _, g20⟩ := hos
    exact tellUps hu (b := 20) (n := 11) (by decide) (by decide) (by decide) (by decide) (by decide) g9 g20 g11 hD
  | set18 a b c d hu =>
    simp only [List.cons.injEq, and_true] at hos
    obtain ⟨g9, _, g11, _, g18, _, _⟩ := hos
    exact tellUps hu (b := 18) (n := 11) (by decide) (by decide) (by decide) (by decide) (by decide) g9 g18 g11 hD
theorem iok_do : IOk Tryz.prog tab42 f_model_Model_Do (footF tab42 9 [true] doQ.G) := by
  refine iok_mdlD allD (by kernel_rfl) (n := 66) ?_
  rintro m rest ⟨k, a, b, key, val, e, sv, rfl, hc, hst, hpl, hck, hs, hn, hu, hcr⟩
  refine ⟨by simp, rfl, ?_⟩
  obtain ⟨cfg, lim, bs, nw, cost, ups, st0, pl⟩ := m
  simp only at hc hst hpl hs hn hu
  subst hst hpl
  obtain ⟨c0, c1, c2, c3, c4, c5, c6, rfl⟩ := cfg7 hc
  have hE : EndsN XD 10 f_model_Model_Do (fun v H => DoQ (mX c0 c1 c2 c3 c4 c5 c6 lim bs nw cost ups) (doR (mX c0 c1 c2 c3 c4 c5 c6 lim bs nw cost ups) k a b key val e sv) v ((idsD ++ refsN 4 v).map H.get)) (st f_model_Model_Do 66 [p9, opV k a b key val, resV e sv] (putL ⟨.leaf, 9⟩ (mdX c0 c1 c2 c3 c4 c5 c6 lim bs nw cost ups))) :=
    EndsIn.toN (VCp_ok pfD_ok (ids := idsD) 2000 _ (do_vc c0 c1 c2 c3 c4 c5 c6 lim bs nw cost ups k a b key val e sv hck hs hn hu hcr))
  refine EndsD.tell hE.toD ?_
  rintro v H (⟨hr, rfl, h⟩ | ⟨m', hr, rfl, h⟩)
  · obtain ⟨v2, H2, k1, rfl, k2⟩ := tellDo (D := fun b => 9 ≤ b ∧ b < 10) (v := .int .i64 7) ⟨Nat.le_refl 9, Nat.lt_succ_self 9⟩ h
    refine ⟨_, H2, k1, ?_, ?_⟩
    · show _ = Value.int .i64 (bif (doR _ k a b key val e sv).isSome then 0 else 7)
      rw [hr]; rfl
    · show IsMdl H2 ((doR _ k a b key val e sv).getD _)
      rw [hr]; exact k2
  · obtain ⟨v2, H2, k1, rfl, k2⟩ := tellDo (D := fun b => 9 ≤ b ∧ b < 10) (v := .int .i64 0) ⟨Nat.le_refl 9, Nat.lt_succ_self 9⟩ h
    refine ⟨_, H2, k1, ?_, ?_⟩
    · show _ = Value.int .i64 (bif (doR _ k a b key val e sv).isSome then 0 else 7)
      rw [hr]; rfl
    · show IsMdl H2 ((doR _ k a b key val e sv).getD _)
      rw [hr]; exact k2
end Go.Ideal

namespace Go.Ideal
noncomputable def nilQ (X : Ctx) (c : Cfg) : Option (Bool × Cfg × Cfg) :=
  match c with
  | ⟨⟨fn, t, n, .reg ops (o :: l) :: k, ds, false, kd, rd⟩, cs, H⟩ =>
    match o.op with
    | .binOp .eql ty x y _ => match ieval X t x, ieval X t y, X.P.underlying ty with
      | .slice (some ⟨_, _, some _⟩) m _, .slice none _ _, some (.slice _) => match wantedI ops o t, finishI ⟨fn, t, n, .reg ops (o :: l) :: k, ds, false, kd, rd⟩ (.bool true), finishI ⟨fn, t, n, .reg ops (o :: l) :: k, ds, false, kd, rd⟩ (.bool false) with
        | some true, some ft, some ff => some (Nat.blt 0 m, ⟨ft, cs, H⟩, ⟨ff, cs, H⟩)
        | _, _, _ => none
      | _, _, _ => none
    | _ => none
  | _ => none
theorem val_run {P : Program} {s : Sem Value} {v : Value} {W : World} (h : s.run P W = .ok v W) : (do pure (Next.value (← s)) : Sem Next).run P W = .ok (.value v) W := by simp [h]
theorem nilQ_reach {X : Ctx} {c ct cf : Cfg} {b : Bool} {Φ : Cfg → Prop} (h : nilQ X c = some (b, ct, cf)) (ht : b = false → Φ ct) (hf : Φ cf) : Reach X c Φ := by
  unfold nilQ at h
  split at h
  rotate_left
  · cases h
  rename_i fn t n ops o l k ds kd rd cs H
  split at h
  rotate_left
  · cases h
  rename_i ty x y yt ho
  split at h
  rotate_left
  · cases h
  rename_i bb off j m cap nl nc e hx hy hu
  split at h
  rotate_left
  · cases h
  rename_i ft ff hw hft hff
  cases h
  intro base W0 hok hplan cs0 μ fr cs' W hm
  obtain ⟨hH, hlaid, g, gs, hfr, hcs, hnd⟩ := hm
  cases hfr with
  | plain fn t n tm todo todo' ds ds' r kd rd rd' htm hi hd hrd =>
    cases hi with
    | @cons it it' k1 k1' h1 hk =>
      cases h1 with
      | reg ops l1 idx hidx =>
        cases idx with
        | nil => simp at hidx
        | cons i idx =>
          simp only [List.map_cons, List.cons.injEq] at hidx
          have hev : ∀ x, VRel μ (ieval X t x) (Frame.eval ⟨fn, tm, .inRegion ops (i :: idx) :: k1', ds', .run, kd, rd'⟩ x) := fun x => eval_rel hlaid htm x
          have hx' := hev x
          have hy' := hev y
          rw [hx] at hx'
          rw [hy] at hy'
          have key : ∃ bv : Bool, (Nat.blt 0 m = true → bv = false) ∧ (execOp (Frame.eval ⟨fn, tm, .inRegion ops (i :: idx) :: k1', ds', .run, kd, rd'⟩) o).run X.P W = .ok (.value (.bool bv)) W := by
            have he : execOp (Frame.eval ⟨fn, tm, .inRegion ops (i :: idx) :: k1', ds', .run, kd, rd'⟩) o = (do pure (.value (← (do eqGuard .eql ty x y (Frame.eval ⟨fn, tm, .inRegion ops (i :: idx) :: k1', ds', .run, kd, rd'⟩ x) (Frame.eval ⟨fn, tm, .inRegion ops (i :: idx) :: k1', ds', .run, kd, rd'⟩ y); binOp .eql ty (Frame.eval ⟨fn, tm, .inRegion ops (i :: idx) :: k1', ds', .run, kd, rd'⟩ x) (Frame.eval ⟨fn, tm, .inRegion ops (i :: idx) :: k1', ds', .run, kd, rd'⟩ y))))) := by simp only [execOp, ho]
            have go : ∀ bv : Bool, eqNil X.P .eql ty (Frame.eval ⟨fn, tm, .inRegion ops (i :: idx) :: k1', ds', .run, kd, rd'⟩ x) (Frame.eval ⟨fn, tm, .inRegion ops (i :: idx) :: k1', ds', .run, kd, rd'⟩ y) = some (.bool bv) →
                (execOp (Frame.eval ⟨fn, tm, .inRegion ops (i :: idx) :: k1', ds', .run, kd, rd'⟩) o).run X.P W = .ok (.value (.bool bv)) W := by
              intro bv hq
              rw [he]
              exact val_run (eqNil_run (x := x) (y := y) hq W)
            generalize Frame.eval ⟨fn, tm, .inRegion ops (i :: idx) :: k1', ds', .run, kd, rd'⟩ x = vx at hx' go
            generalize Frame.eval ⟨fn, tm, .inRegion ops (i :: idx) :: k1', ds', .run, kd, rd'⟩ y = vy at hy' go
            cases hy'
            cases hx' with
            | vslice => exact ⟨false, fun _ => rfl, go false (by simp [eqNil, nilKind, hu])⟩
            | vnil _ _ _ T a _ _ =>
              cases a with
              | none => exact ⟨true, fun h => absurd (Nat.le_of_ble_eq_true h) (by omega), go true (by simp [eqNil, nilKind, hu])⟩
              | some p => exact ⟨false, fun _ => rfl, go false (by simp [eqNil, nilKind, hu])⟩
          obtain ⟨bv, hb, hrun⟩ := key
          have hst := c_op (cs := cs' ++ cs0) hidx.1 (wanted_rel htm hw) (fun c e => by rw [ho] at e; cases e) hrun (.inl rfl)
          have hfr : FRel X μ H [] ⟨fn, t, n, .reg ops (o :: l) :: k, ds, false, kd, rd⟩ ⟨fn, tm, .inRegion ops (i :: idx) :: k1', ds', .run, kd, rd'⟩ :=
            .plain fn t n tm _ _ ds ds' false kd rd rd' htm (.cons (.reg ops (o :: l) (i :: idx) (by simp [hidx.1, hidx.2])) hk) hd hrd
          cases bv with
          | true =>
            refine ⟨_, ht ?_, μ, _, cs', W, .one hst, hH, hlaid, [], gs, finish_rel hfr (.bool true) hft, hcs, hnd⟩
            cases hq : Nat.blt 0 m
            · rfl
            · have := hb hq; cases this
          | false => exact ⟨_, hf, μ, _, cs', W, .one hst, hH, hlaid, [], gs, finish_rel hfr (.bool false) hff, hcs, hnd⟩
noncomputable def VCn (X : Ctx) (pf : Pf) (f : FuncId) (ids : List Nat) (Q : Value → List (Option IObj) → Prop) (n : Nat) : Cfg → Prop :=
  Nat.rec (motive := fun _ => Cfg → Prop) (fun _ => False) (fun _ ih c => match doneF X f c with
    | some (v, H) => Q v ((ids ++ refsN 4 v).map H.get)
    | none => match nilQ X c with
      | some (b, ct, cf) => bif b then ih cf else (ih ct ∧ ih cf)
      | none => stepK X pf c ih) n
theorem VCn_ok {X : Ctx} {pf : Pf} (hpf : PfOk X pf) {f : FuncId} {ids : List Nat} {Q : Value → List (Option IObj) → Prop} : ∀ (n : Nat) (c : Cfg), VCn X pf f ids Q n c → EndsIn X f (fun v H => Q v ((ids ++ refsN 4 v).map H.get)) c := by
  intro n
  induction n with
  | zero => intro c h; cases h
  | succ n ih =>
    intro c h
    have h : (match doneF X f c with
      | some (v, H) => Q v ((ids ++ refsN 4 v).map H.get)
      | none => match nilQ X c with
        | some (b, ct, cf) => bif b then VCn X pf f ids Q n cf else (VCn X pf f ids Q n ct ∧ VCn X pf f ids Q n cf)
        | none => stepK X pf c (VCn X pf f ids Q n)) := h
    split at h
    · rename_i v H e; exact Reach.here ⟨v, H, e, h⟩
    · split at h
      · rename_i b ct cf hq
        cases hb : b
        · simp only [hb, cond_false] at h
          exact Reach.bind (nilQ_reach (Φ := fun c' => VCn X pf f ids Q n c') hq (fun _ => h.1) h.2) ih
        · simp only [hb, cond_true] at h
          exact Reach.bind (nilQ_reach (Φ := fun c' => VCn X pf f ids Q n c') hq (fun e => by rw [hb] at e; cases e) h) ih
      · exact Reach.bind (stepK_ok hpf h) ih
end Go.Ideal

--CASTS
--SUB ([SK.bool] ++ ([SK.str] ++ ([SK.str] ++ []))) => kUp
set_option maxRecDepth 1000000
namespace Go.Ideal
open Go.Proofs
theorem vc_copy (m : MSt) (Q : Value → List (Option IObj) → Prop) : VCn XM pfM f_model_Model_Copy [9, 10, 11, 12, 14, 15, 17] Q 1000 (st f_model_Model_Copy 28 [p9] (putL ⟨.leaf, 9⟩ (mdU m))) = (
 (List.length (MSt.base m) < 1000000) ∧
 (((.slice (some ⟨12, 0, (some 0)⟩) (List.length (MSt.ups m)) 18446744073709551616) : Value) = (.slice (some ⟨12, 0, (some 0)⟩) (List.length (MSt.ups m)) 18446744073709551616)) ∧
 (((.pointer (some ⟨9, 11, none⟩)) : Value) = (.pointer (some ⟨9, 11, none⟩))) ∧
 (((.pointer (some ⟨9, 0, none⟩)) : Value) = (.pointer (some ⟨9, 0, none⟩))) ∧
 (((.pointer (some ⟨9, 0, none⟩)) : Value) = (.pointer (some ⟨9, 0, none⟩))) ∧
 (((.pointer (some ⟨11, 0, none⟩)) : Value) = (.pointer (some ⟨11, 0, none⟩))) ∧
 (((.pointer (some ⟨9, 9, none⟩)) : Value) = (.pointer (some ⟨9, 9, none⟩))) ∧
 (((.pointer (some ⟨9, 0, none⟩)) : Value) = (.pointer (some ⟨9, 0, none⟩))) ∧
 (((.pointer (some ⟨9, 0, none⟩)) : Value) = (.pointer (some ⟨9, 0, none⟩))) ∧
 (List.length (MSt.now m) < 1000000) ∧
 (((.slice (some ⟨12, 0, (some 0)⟩) (List.length (MSt.ups m)) 18446744073709551616) : Value) = (.slice (some ⟨12, 0, (some 0)⟩) (List.length (MSt.ups m)) 18446744073709551616)) ∧
 (((.pointer (some ⟨9, 11, none⟩)) : Value) = (.pointer (some ⟨9, 11, none⟩))) ∧
 (((.pointer (some ⟨9, 0, none⟩)) : Value) = (.pointer (some ⟨9, 0, none⟩))) ∧
 (((.pointer (some ⟨9, 0, none⟩)) : Value) = (.pointer (some ⟨9, 0, none⟩))) ∧
 (bif Nat.blt 0 (List.length (MSt.ups m)) then
  (bif Nat.ble (0 + List.length (MSt.ups m)) (List.length (MSt.ups m)) then
   (bif Nat.beq (List.length (MSt.ups m)) 0 then
    (Q (.pointer (some ⟨13, 0, none⟩)) [some (.cells [(.int IntKind.i64 (List.getD (MSt.cfg m) 0 0)), (.int IntKind.i64 (List.getD (MSt.cfg m) 1 0)), (.int IntKind.i64 (List.getD (MSt.cfg m) 2 0)), (.int IntKind.i64 (List.getD (MSt.cfg m) 3 0)), (.int IntKind.i64 (List.getD (MSt.cfg m) 4 0)), (.int IntKind.i64 (List.getD (MSt.cfg m) 5 0)), (.int IntKind.i64 (List.getD (MSt.cfg m) 6 0)), (.int IntKind.i64 (MSt.limit m)), (.pointer (some ⟨10, 0, none⟩)), (.pointer (some ⟨11, 0, none⟩)), (.int IntKind.i64 (MSt.cost m)), (.slice (some ⟨12, 0, (some 0)⟩) (List.length (MSt.ups m)) 18446744073709551616), (.pointer none), (.int IntKind.i64 (MSt.state m)), (.bool (MSt.planned m))] 0 false), some (.abs (Abs.pack (Pk.table (MSt.base m))) false), some (.abs (Abs.pack (Pk.table (MSt.now m))) false), some (.vec kUp (MSt.ups m) false), some (.abs (Abs.pack (Pk.table (MSt.base m))) false), some (.abs (Abs.pack (Pk.table (MSt.now m))) false), none, some (.cells [(.int IntKind.i64 (List.getD (MSt.cfg m) 0 0)), (.int IntKind.i64 (List.getD (MSt.cfg m) 1 0)), (.int IntKind.i64 (List.getD (MSt.cfg m) 2 0)), (.int IntKind.i64 (List.getD (MSt.cfg m) 3 0)), (.int IntKind.i64 (List.getD (MSt.cfg m) 4 0)), (.int IntKind.i64 (List.getD (MSt.cfg m) 5 0)), (.int IntKind.i64 (List.getD (MSt.cfg m) 6 0)), (.int IntKind.i64 (MSt.limit m)), (.pointer (some ⟨14, 0, none⟩)), (.pointer (some ⟨15, 0, none⟩)), (.int IntKind.i64 (MSt.cost m)), (.slice (some ⟨16, 0, none⟩) 0 0), (.pointer none), (.int IntKind.i64 (MSt.state m)), (.bool (MSt.planned m))] 0 false)])
   else
    (bif bigOk 40 (0 + List.length (MSt.ups m)) then
     (Q (.pointer (some ⟨13, 0, none⟩)) [some (.cells [(.int IntKind.i64 (List.getD (MSt.cfg m) 0 0)), (.int IntKind.i64 (List.getD (MSt.cfg m) 1 0)), (.int IntKind.i64 (List.getD (MSt.cfg m) 2 0)), (.int IntKind.i64 (List.getD (MSt.cfg m) 3 0)), (.int IntKind.i64 (List.getD (MSt.cfg m) 4 0)), (.int IntKind.i64 (List.getD (MSt.cfg m) 5 0)), (.int IntKind.i64 (List.getD (MSt.cfg m) 6 0)), (.int IntKind.i64 (MSt.limit m)), (.pointer (some ⟨10, 0, none⟩)), (.pointer (some ⟨11, 0, none⟩)), (.int IntKind.i64 (MSt.cost m)), (.slice (some ⟨12, 0, (some 0)⟩) (List.length (MSt.ups m)) 18446744073709551616), (.pointer none), (.int IntKind.i64 (MSt.state m)), (.bool (MSt.planned m))] 0 false), some (.abs (Abs.pack (Pk.table (MSt.base m))) false), some (.abs (Abs.pack (Pk.table (MSt.now m))) false), some (.vec kUp (MSt.ups m) false), some (.abs (Abs.pack (Pk.table (MSt.base m))) false), some (.abs (Abs.pack (Pk.table (MSt.now m))) false), some (.vec kUp ([] ++ List.take (List.length (MSt.ups m)) (List.drop 0 (MSt.ups m))) false), some (.cells [(.int IntKind.i64 (List.getD (MSt.cfg m) 0 0)), (.int IntKind.i64 (List.getD (MSt.cfg m) 1 0)), (.int IntKind.i64 (List.getD (MSt.cfg m) 2 0)), (.int IntKind.i64 (List.getD (MSt.cfg m) 3 0)), (.int IntKind.i64 (List.getD (MSt.cfg m) 4 0)), (.int IntKind.i64 (List.getD (MSt.cfg m) 5 0)), (.int IntKind.i64 (List.getD (MSt.cfg m) 6 0)), (.int IntKind.i64 (MSt.limit m)), (.pointer (some ⟨14, 0, none⟩)), (.pointer (some ⟨15, 0, none⟩)), (.int IntKind.i64 (MSt.cost m)), (.slice (some ⟨17, 0, (some 0)⟩) (0 + List.length (MSt.ups m)) 18446744073709551616), (.pointer none), (.int IntKind.i64 (MSt.state m)), (.bool (MSt.planned m))] 0 false)])
    else
     False))
  else
   False)
 else
  (
   (Q (.pointer (some ⟨13, 0, none⟩)) [some (.cells [(.int IntKind.i64 (List.getD (MSt.cfg m) 0 0)), (.int IntKind.i64 (List.getD (MSt.cfg m) 1 0)), (.int IntKind.i64 (List.getD (MSt.cfg m) 2 0)), (.int IntKind.i64 (List.getD (MSt.cfg m) 3 0)), (.int IntKind.i64 (List.getD (MSt.cfg m) 4 0)), (.int IntKind.i64 (List.getD (MSt.cfg m) 5 0)), (.int IntKind.i64 (List.getD (MSt.cfg m) 6 0)), (.int IntKind.i64 (MSt.limit m)), (.pointer (some ⟨10, 0, none⟩)), (.pointer (some ⟨11, 0, none⟩)), (.int IntKind.i64 (MSt.cost m)), (.slice (some ⟨12, 0, (some 0)⟩) (List.length (MSt.ups m)) 18446744073709551616), (.pointer none), (.int IntKind.i64 (MSt.state m)), (.bool (MSt.planned m))] 0 false), some (.abs (Abs.pack (Pk.table (MSt.base m))) false), some (.abs (Abs.pack (Pk.table (MSt.now m))) false), some (.vec kUp (MSt.ups m) false), some (.abs (Abs.pack (Pk.table (MSt.base m))) false), some (.abs (Abs.pack (Pk.table (MSt.now m))) false), none, some (.cells [(.int IntKind.i64 (List.getD (MSt.cfg m) 0 0)), (.int IntKind.i64 (List.getD (MSt.cfg m) 1 0)), (.int IntKind.i64 (List.getD (MSt.cfg m) 2 0)), (.int IntKind.i64 (List.getD (MSt.cfg m) 3 0)), (.int IntKind.i64 (List.getD (MSt.cfg m) 4 0)), (.int IntKind.i64 (List.getD (MSt.cfg m) 5 0)), (.int IntKind.i64 (List.getD (MSt.cfg m) 6 0)), (.int IntKind.i64 (MSt.limit m)), (.pointer (some ⟨14, 0, none⟩)), (.pointer (some ⟨15, 0, none⟩)), (.int IntKind.i64 (MSt.cost m)), (.slice none 0 0), (.pointer none), (.int IntKind.i64 (MSt.state m)), (.bool (MSt.planned m))] 0 false)])) ∧
  (bif Nat.ble (0 + List.length (MSt.ups m)) (List.length (MSt.ups m)) then
   (bif Nat.beq (List.length (MSt.ups m)) 0 then
    (Q (.pointer (some ⟨13, 0, none⟩)) [some (.cells [(.int IntKind.i64 (List.getD (MSt.cfg m) 0 0)), (.int IntKind.i64 (List.getD (MSt.cfg m) 1 0)), (.int IntKind.i64 (List.getD (MSt.cfg m) 2 0)), (.int IntKind.i64 (List.getD (MSt.cfg m) 3 0)), (.int IntKind.i64 (List.getD (MSt.cfg m) 4 0)), (.int IntKind.i64 (List.getD (MSt.cfg m) 5 0)), (.int IntKind.i64 (List.getD (MSt.cfg m) 6 0)), (.int IntKind.i64 (MSt.limit m)), (.pointer (some ⟨10, 0, none⟩)), (.pointer (some ⟨11, 0, none⟩)), (.int IntKind.i64 (MSt.cost m)), (.slice (some ⟨12, 0, (some 0)⟩) (List.length (MSt.ups m)) 18446744073709551616), (.pointer none), (.int IntKind.i64 (MSt.state m)), (.bool (MSt.planned m))] 0 false), some (.abs (Abs.pack (Pk.table (MSt.base m))) false), some (.abs (Abs.pack (Pk.table (MSt.now m))) false), some (.vec kUp (MSt.ups m) false), some (.abs (Abs.pack (Pk.table (MSt.base m))) false), some (.abs (Abs.pack (Pk.table (MSt.now m))) false), none, some (.cells [(.int IntKind.i64 (List.getD (MSt.cfg m) 0 0)), (.int IntKind.i64 (List.getD (MSt.cfg m) 1 0)), (.int IntKind.i64 (List.getD (MSt.cfg m) 2 0)), (.int IntKind.i64 (List.getD (MSt.cfg m) 3 0)), (.int IntKind.i64 (List.getD (MSt.cfg m) 4 0)), (.int IntKind.i64 (List.getD (MSt.cfg m) 5 0)), (.int IntKind.i64 (List.getD (MSt.cfg m) 6 0)), (.int IntKind.i64 (MSt.limit m)), (.pointer (some ⟨14, 0, none⟩)), (.pointer (some ⟨15, 0, none⟩)), (.int IntKind.i64 (MSt.cost m)), (.slice (some ⟨16, 0, none⟩) 0 0), (.pointer none), (.int IntKind.i64 (MSt.state m)), (.bool (MSt.planned m))] 0 false)])
   else
    (bif bigOk 40 (0 + List.length (MSt.ups m)) then
     (Q (.pointer (some ⟨13, 0, none⟩)) [some (.cells [(.int IntKind.i64 (List.getD (MSt.cfg m) 0 0)), (.int IntKind.i64 (List.getD (MSt.cfg m) 1 0)), (.int IntKind.i64 (List.getD (MSt.cfg m) 2 0)), (.int IntKind.i64 (List.getD (MSt.cfg m) 3 0)), (.int IntKind.i64 (List.getD (MSt.cfg m) 4 0)), (.int IntKind.i64 (List.getD (MSt.cfg m) 5 0)), (.int IntKind.i64 (List.getD (MSt.cfg m) 6 0)), (.int IntKind.i64 (MSt.limit m)), (.pointer (some ⟨10, 0, none⟩)), (.pointer (some ⟨11, 0, none⟩)), (.int IntKind.i64 (MSt.cost m)), (.slice (some ⟨12, 0, (some 0)⟩) (List.length (MSt.ups m)) 18446744073709551616), (.pointer none), (.int IntKind.i64 (MSt.state m)), (.bool (MSt.planned m))] 0 false), some (.abs (Abs.pack (Pk.table (MSt.base m))) false), some (.abs (Abs.pack (Pk.table (MSt.now m))) false), some (.vec kUp (MSt.ups m) false), some (.abs (Abs.pack (Pk.table (MSt.base m))) false), some (.abs (Abs.pack (Pk.table (MSt.now m))) false), some (.vec kUp ([] ++ List.take (List.length (MSt.ups m)) (List.drop 0 (MSt.ups m))) false), some (.cells [(.int IntKind.i64 (List.getD (MSt.cfg m) 0 0)), (.int IntKind.i64 (List.getD (MSt.cfg m) 1 0)), (.int IntKind.i64 (List.getD (MSt.cfg m) 2 0)), (.int IntKind.i64 (List.getD (MSt.cfg m) 3 0)), (.int IntKind.i64 (List.getD (MSt.cfg m) 4 0)), (.int IntKind.i64 (List.getD (MSt.cfg m) 5 0)), (.int IntKind.i64 (List.getD (MSt.cfg m) 6 0)), (.int IntKind.i64 (MSt.limit m)), (.pointer (some ⟨14, 0, none⟩)), (.pointer (some ⟨15, 0, none⟩)), (.int IntKind.i64 (MSt.cost m)), (.slice (some ⟨17, 0, (some 0)⟩) (0 + List.length (MSt.ups m)) 18446744073709551616), (.pointer none), (.int IntKind.i64 (MSt.state m)), (.bool (MSt.planned m))] 0 false)])
    else
     False))
  else
   False))) := by kernel_rfl
end Go.Ideal

set_option maxRecDepth 1000000
namespace Go.Ideal
open Go.Proofs
theorem ShutsTo.trans {D : Nat → Prop} {v : Value} {H H2 H3 : IHeap} (h : ShutsTo D v H H2) (h2 : ShutsTo D v H2 H3) : ShutsTo D v H H3 := by
  induction h with
  | refl H => exact h2
  | step s objs bs rs hr hne hlen hnd hrs hreach hobj hroot k ih => exact .step s objs bs rs hr hne hlen hnd hrs hreach hobj hroot (ih h2)
structure MdlAt (r b n x : Nat) (H : IHeap) (m : MSt) : Prop where
  nd : (r :: [b, n, x]).Nodup
  gr : H.get r = some (.cells (mCells m b n (.slice (some ⟨x, 0, some 0⟩) m.ups.length capU)) 0 false)
  gb : H.get b = some (tbP m.base)
  gn : H.get n = some (tbP m.now)
  gx : H.get x = some (.vec kUp m.ups false)
theorem shutAt {D : Nat → Prop} {v : Value} {H : IHeap} {m : MSt} {r b n x : Nat} (hD : r ∈ refsN 4 v ∨ D r) (h : MdlAt r b n x H m) :
    ∃ H2, ShutsTo D v H H2 ∧ H2.get r = some (.abs (.pack (.model m)) false) ∧ ∀ y, y ∉ r :: [b, n, x] → H2.get y = H.get y := by
  have hk := shutH_ok (s := .model m) (H := H) h.nd
  refine ⟨shutH (.model m) (r :: [b, n, x]) H, shutStar (s := .model m) (ns := [b, n, x]) (.model m) hD rfl h.nd h.gr rfl rfl rfl ?_ ?_ (Nat.le_of_ble_eq_true rfl) ?_ (.refl _), hk.root r rfl, fun y hy => hk.old y hy⟩
  · intro y hy; exact hy
  · intro y hy; exact hy
  · intro i y p hy hp
    cases i with
    | zero => cases hy; cases hp; exact ⟨_, h.gb, rfl, rfl, rfl, rfl⟩
    | succ i => cases i with
      | zero => cases hy; cases hp; exact ⟨_, h.gn, rfl, rfl, rfl, rfl⟩
      | succ i => cases i with
        | zero => cases hy; cases hp; exact ⟨_, h.gx, rfl, rfl, rfl, rfl⟩
        | succ i => cases i <;> cases hy
theorem openMdl {X : Ctx} {D : Nat → Prop} {f : FuncId} {Q : Value → IHeap → Prop} {n : Nat} {m : MSt} {rest : List Value} (hD : D 9) (hN : EndsD X 10 D f Q (st f n (p9 :: rest) (putL ⟨.leaf, 9⟩ (mdU m)))) : EndsD X 10 D f Q (st f n (p9 :: rest) (mdl0 m)) := by
  refine EndsD.opened (b := 9) (s := .model m) (ro := false) hD (by rfl) (fun ops p k h => by cases h) fun objs hr => ?_
  cases hr with
  | model =>
    have hN : EndsD X 10 D f Q (st f n (p9 :: rest) (allocs ((mdl0 m).put 9 (mRoot m (.slice (some ⟨12, 0, some 0⟩) m.ups.length capU))) [.abs (.pack (.table m.base)) false, .abs (.pack (.table m.now)) false, .vec kUp m.ups false])) := by
      rw [openMU_eq]; exact hN
    refine ⟨_, openedAll (H := mdl0 m) (b := 9) (ro := false) (o1 := mRoot m (.slice (some ⟨12, 0, some 0⟩) m.ups.length capU)) (ps1 := [.abs (.pack (.table m.base)) false, .abs (.pack (.table m.now)) false, .vec kUp m.ups false]) (show 9 < 10 by decide) (mdl0_top m) rfl rfl (fun i p hp => ?_), hN⟩
    cases i with
    | zero => cases hp; exact ⟨_, rfl, rfl⟩
    | succ i => cases i with
      | zero => cases hp; exact ⟨_, rfl, rfl⟩
      | succ i => cases i with
        | zero => cases hp; exact ⟨_, rfl, rfl⟩
        | succ i => cases i <;> cases hp
inductive CpQ (m : MSt) : Value → List (Option IObj) → Prop where
  | row : CpQ m (.pointer (some ⟨13, 0, none⟩)) [some (.cells (mCells m 10 11 (.slice (some ⟨12, 0, some 0⟩) m.ups.length 18446744073709551616)) 0 false), some (tbP m.base), some (tbP m.now), some (.vec kUp m.ups false), some (tbP m.base), some (tbP m.now), some (.vec kUp m.ups false),
      some (.cells (mCells m 14 15 (.slice (some ⟨17, 0, some 0⟩) m.ups.length 18446744073709551616)) 0 false)]
  | zero (x : Value) (o : Option IObj) (hx : ∀ ν : Inj, NoRoom ν x) (hu : m.ups = []) : CpQ m (.pointer (some ⟨13, 0, none⟩)) [some (.cells (mCells m 10 11 (.slice (some ⟨12, 0, some 0⟩) m.ups.length 18446744073709551616)) 0 false), some (tbP m.base), some (tbP m.now), some (.vec kUp m.ups false), some (tbP m.base), some (tbP m.now), o,
      some (.cells (mCells m 14 15 x) 0 false)]
noncomputable def copyMG (args : List Value) (objs : List IObj) : GT :=
  match args, objs with
  | [.pointer (some ⟨9, 0, none⟩)], [.abs (.pack (.model m)) _] => .ask (m.base.length < 1000000 ∧ m.now.length < 1000000 ∧ m.ups.length < 1000000) (.ret ⟨.pointer (some ⟨10, 0, none⟩), [some (.abs (.pack (.model m)) false)], [.abs (.pack (.model m)) false]⟩)
  | _, _ => .fail
theorem iok_copyM : IOk Tryz.prog tab42 f_model_Model_Copy (footF tab42 9 [true] copyMG) := by
  refine iok_footD allM (by kernel_rfl) (n := 28) (by kernel_rfl) (by kernel_rfl) fun argsc objs x hx hro => ?_
  unfold copyMG at hx
  split at hx
  · rename_i m ro
    simp only [GT.run] at hx
    split at hx
    · rename_i hok
      obtain ⟨h1, h2, h3⟩ := hok
      cases hx
      have hr0 : ro = false := hro 0 _ rfl rfl
      subst hr0
      refine ⟨by simp, ?_⟩
      show EndsD XM 10 (fun b => 9 ≤ b ∧ b < 10) f_model_Model_Copy _ (st f_model_Model_Copy 28 [p9] (mdl0 m))
      refine EndsD.shut (openMdl (rest := []) (Q := fun v H => v = .pointer (some ⟨13, 0, none⟩) ∧ MdlAt 9 10 11 12 H m ∧ ∃ z, MdlAt 13 14 15 z H m ∧ 16 < z) ⟨Nat.le_refl 9, Nat.lt_succ_self 9⟩ ?_) ?_
      · have hE : EndsN XM 10 f_model_Model_Copy (fun v H => CpQ m v (([9, 10, 11, 12, 14, 15, 17] ++ refsN 4 v).map H.get)) (st f_model_Model_Copy 28 [p9] (putL ⟨.leaf, 9⟩ (mdU m))) := by
          refine EndsIn.toN (VCn_ok pfM_ok (ids := [9, 10, 11, 12, 14, 15, 17]) (Q := CpQ m) 1000 _ ?_)
          rw [vc_copy]
          have hb : bigOk 40 (0 + m.ups.length) = true := by
            unfold bigOk
            rw [Nat.ble_eq_true_of_le (by omega), Nat.ble_eq_true_of_le (by omega)]; rfl
          have hle : Nat.ble (0 + m.ups.length) m.ups.length = true := Nat.ble_eq_true_of_le (by omega)
          have h0 : Nat.blt 0 m.ups.length = false → m.ups = [] := fun h => by
            cases hq : m.ups with
            | nil => rfl
            | cons a l => rw [hq] at h; cases h
          have h00 : Nat.beq m.ups.length 0 = true → m.ups = [] := fun h => List.eq_nil_of_length_eq_zero (Nat.eq_of_beq_eq_true h)
          have hrow : CpQ m (.pointer (some ⟨13, 0, none⟩)) [some (.cells (mCells m 10 11 (.slice (some ⟨12, 0, some 0⟩) m.ups.length 18446744073709551616)) 0 false), some (tbP m.base), some (tbP m.now), some (.vec kUp m.ups false), some (tbP m.base), some (tbP m.now), some (.vec kUp ([] ++ List.take (List.length (MSt.ups m)) (List.drop 0 (MSt.ups m))) false),
              some (.cells (mCells m 14 15 (.slice (some ⟨17, 0, some 0⟩) (0 + m.ups.length) 18446744073709551616)) 0 false)] := by
            rw [List.drop_zero, List.take_length, Nat.zero_add]
            exact .row
          repeat' first
            | exact hrow
            | exact .zero _ _ (fun _ => noRoom_zero) (h00 (by assumption))
            | exact .zero _ _ (fun _ => noRoom_nil) (h0 (by assumption))
            | refine And.intro (by first | exact rfl | exact h1 | exact h2) ?_
            | refine bif_true hle ?_
            | refine bif_true hb ?_
            | refine bif_both (fun _ => ?_) (fun _ => ?_)
            | refine And.intro ?_ ?_
        refine hE.toD.tell ?_
        intro v H h
        generalize hos : ([9, 10, 11, 12, 14, 15, 17] ++ refsN 4 v).map H.get = os at h
        cases h with
        | row =>
          have h : [H.get 9, H.get 10, H.get 11, H.get 12, H.get 14, H.get 15, H.get 17, H.get 13] = _ := hos
          simp only [List.cons.injEq, and_true] at h
          obtain ⟨g9, g10, g11, g12, g14, g15, g17, g13⟩ := h
          exact ⟨_, H, fun base W0 μ W v' _ hv hH => ⟨μ, Inj.le_refl _, hH, hv⟩, rfl, ⟨by decide, by rw [g9, capL], g10, g11, g12⟩, 17, ⟨by decide, by rw [g13, capL], g14, g15, g17⟩, by decide⟩
        | zero x o hx hu =>
          have h : [H.get 9, H.get 10, H.get 11, H.get 12, H.get 14, H.get 15, H.get 17, H.get 13] = _ := hos
          simp only [List.cons.injEq, and_true] at h
          obtain ⟨g9, g10, g11, g12, g14, g15, _, g13⟩ := h
          obtain ⟨v2, H2, j1, rfl, ⟨z, z1, z2, z3, z4⟩, j3⟩ := tellUpsX (D := fun b => 9 ≤ b ∧ b < 10) (v := .pointer (some ⟨13, 0, none⟩)) hx hu (r := 13) (b := 14) (n := 15) (by decide) (by decide) (by decide) (by decide) (by decide) (by decide) g13 g14 g15 ⟨9, Nat.le_refl 9, Nat.lt_succ_self 9⟩
          refine ⟨_, H2, j1, rfl, ⟨by decide, ?_, ?_, ?_, ?_⟩, z, ⟨z2, z3, ?_, ?_, z4⟩, by omega⟩
          · rw [j3 9 (by decide) (by decide), g9, capL]
          · rw [j3 10 (by decide) (by decide)]; exact g10
          · rw [j3 11 (by decide) (by decide)]; exact g11
          · rw [j3 12 (by decide) (by decide)]; exact g12
          · rw [j3 14 (by decide) (by decide)]; exact g14
          · rw [j3 15 (by decide) (by decide)]; exact g15
      · rintro v H ⟨rfl, ha, z, hb, hz⟩
        obtain ⟨H2, k1, k2, k3⟩ := shutAt (D := fun b => 9 ≤ b ∧ b < 9 + 1) (v := .pointer (some ⟨13, 0, none⟩)) (.inr ⟨Nat.le_refl 9, Nat.lt_succ_self 9⟩) ha
        have hb2 : MdlAt 13 14 15 z H2 m := ⟨hb.nd, by rw [k3 13 (by decide)]; exact hb.gr, by rw [k3 14 (by decide)]; exact hb.gb, by rw [k3 15 (by decide)]; exact hb.gn, by rw [k3 z (by simp only [List.mem_cons, List.not_mem_nil, not_or, not_false_eq_true, and_true]; omega)]; exact hb.gx⟩
        obtain ⟨H3, j1, j2, j3⟩ := shutAt (D := fun b => 9 ≤ b ∧ b < 9 + 1) (v := .pointer (some ⟨13, 0, none⟩)) (.inl (by decide)) hb2
        refine ⟨H3, k1.trans j1, [13], by simp, fun c hc => by simp at hc; subst hc; exact Nat.le_of_ble_eq_true rfl, rfl, rfl, fun j c p hj hp => ?_, fun j o hj hm ho => ?_⟩
        · cases j with
          | zero => cases hj; cases hp; exact ⟨_, rfl, j2⟩
          | succ j => cases j <;> cases hj
        · cases j with
          | zero => cases ho; exact ⟨_, rfl, by rw [j3 9 (by simp only [List.mem_cons, List.not_mem_nil, not_or, not_false_eq_true, and_true]; omega)]; exact k2⟩
          | succ j => exact absurd hj (by show ¬ (j + 1 < 1); omega)
    · cases hx
  · cases hx
end Go.Ideal

namespace Go.Ideal
theorem slice_dom {μ : Inj} {b o m cap : Nat} {s : Option Nat} {v' : Value} (h : VRel μ (.slice (some ⟨b, o, s⟩) m cap) v') : ∃ T, μ b = some T := by
  cases h with
  | slice _ _ _ _ _ _ T h _ _ => exact ⟨T, h⟩
  | vslice _ _ _ _ _ _ T h _ _ _ => exact ⟨T, h⟩
  | vnil _ _ _ T _ h _ => exact ⟨T, h⟩
theorem ptr_dom {μ : Inj} {b o : Nat} {s : Option Nat} {v' : Value} (h : VRel μ (.pointer (some ⟨b, o, s⟩)) v') : ∃ T, μ b = some T := by
  cases h with
  | ptr _ _ T h => exact ⟨T, h⟩
  | vptr _ _ _ T h => exact ⟨T, h⟩
theorem ReachN.fuzz {X : Ctx} {N : Nat} {Φ : Cfg → Prop} {fn : FuncId} {t : Tr Value} {n : Nat} {todo : List IItem} {ds : List Deferred} {r : Bool} {kd : CallKind} {rd : Option Nat} {cs : List IFrame} {H : IHeap} (i j : Nat) (k : EK) {b o m cap : Nat} {s : Option Nat}
    (hd : noDreg todo = true) (hi : look t i = .slice none 0 0) (hj : look t j = .slice (some ⟨b, o, s⟩) m cap) (hk : k.length ≠ 0)
    (hr : ReachN X N ⟨⟨fn, t.put i (some (.slice (some ⟨H.next, 0, some 0⟩) 0 capU)), n, todo, ds, r, kd, rd⟩, cs, H.alloc (.vec k [] false)⟩ Φ) : ReachN X N ⟨⟨fn, t, n, todo, ds, r, kd, rd⟩, cs, H⟩ Φ := by
  intro base W0 hb hok hplan cs0 μ fr cs' W hm
  obtain ⟨hH, hlaid, g, gs, hfr, hcs, hnd⟩ := hm
  cases hfr with
  | plain fn t n tm todo todo' ds ds' r kd rd rd' ht hi2 hd2 hr2 =>
    have hj2 := ht.2 j
    rw [hj] at hj2
    obtain ⟨T, hT⟩ := slice_dom hj2
    obtain ⟨h1, h2⟩ := hH.voidNew hT hk false
    refine hr base W0 hb hok hplan cs0 _ _ cs' W ⟨h1, hlaid.mono h2.le, [], gs, .plain fn _ n tm todo todo' ds ds' r kd rd rd' ⟨ht.1, fun u => ?_⟩ (hi2.mono h2.le) (hd2.mono h2.le) (hr2.mono h2.le), hcs.mono (h2.keeps _), by simpa using hnd⟩
    by_cases hu : u = i
    · subst hu
      have hi3 := ht.2 u
      rw [hi] at hi3
      rw [look_put_same]
      generalize tm.getD u Go.undef = w at hi3
      cases hi3
      exact .vnil _ 0 capU _ none (Inj.ext_same _ _ _) (.inr ⟨Nat.le_refl _, Nat.sub_self _⟩)
    · rw [look_put_ne _ _ hu]
      exact (ht.2 u).mono h2.le
  | drawn fn t n tm ops plan idx D G k k' ds ds' kd rd rd' hD hk2 hd2 hr2 => cases hd
end Go.Ideal
