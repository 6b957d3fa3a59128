/-
  Part of the proof: the machine that runs a program by fixed orders, and that each of its runs is a run of the model; or a run of it in parts. No conditions.
-/
import Derived.Test.YtjaogllgillaiaaGreatDoorIdPlanOk
namespace Go.Ideal

/-- The listed objects alone. -/
noncomputable def keepT (m : Tr IObj) : List Nat → Tr IObj
  | [] => .leaf
  | i :: r => (keepT m r).put i (m.get i)
def plainHead : List IItem → Bool
  | .dreg _ _ :: _ => false
  | _ => true
def noGhost (P : Program) : List IItem → Bool
  | .dreg ops _ :: _ => ops.toList.all fun o => !(Nat.beq (clsOf P o) 1)
  | _ => true
def okShrink (P : Program) (c : Cfg) : Bool := plainHead c.fr.todo && c.cs.all fun f => noGhost P f.todo
noncomputable def shrink (P : Program) (ids : List Nat) (c : Cfg) : Option Cfg :=
  match c with
  | ⟨fr, cs, H⟩ => bif okShrink P ⟨fr, cs, H⟩ then some ⟨fr, cs, ⟨keepT H.m ids, H.next⟩⟩ else none
noncomputable def runG (X : Ctx) (n : Nat) (ids : List Nat) (c : Cfg) : Option Cfg :=
  match runI X n c with
  | some c' => shrink X.P ids c'
  | none => none

/-- Some slots are not looked at any more. -/
noncomputable def forgetT : List Nat → Tr Value → Tr Value
  | [], t => t
  | i :: r, t => (forgetT r t).put i (some junk)
noncomputable def forget (l : List Nat) (c : Cfg) : Option Cfg :=
  match c with
  | ⟨⟨fn, t, n, todo, ds, r, kd, rd⟩, cs, H⟩ => bif plainHead todo then some ⟨⟨fn, forgetT l t, n, todo, ds, r, kd, rd⟩, cs, H⟩ else none
noncomputable def runF (X : Ctx) (n : Nat) (l : List Nat) (c : Cfg) : Option Cfg :=
  match runI X n c with
  | some c' => forget l c'
  | none => none

inductive Goes (X : Ctx) : Cfg → Cfg → Prop where
  | run {c c' : Cfg} (n : Nat) (h : runI X n c = some c') : Goes X c c'
  | shrink {c c' : Cfg} (ids : List Nat) (h : Go.Ideal.shrink X.P ids c = some c') : Goes X c c'
  | forget {c c' : Cfg} (l : List Nat) (h : Go.Ideal.forget l c = some c') : Goes X c c'
  | trans {c c1 c2 : Cfg} (h : Goes X c c1) (h' : Goes X c1 c2) : Goes X c c2
theorem Goes.runG {X : Ctx} {c c' : Cfg} {n : Nat} {ids : List Nat} (h : runG X n ids c = some c') : Goes X c c' := by
  unfold Ideal.runG at h
  split at h
  · rename_i c1 h1
    exact .trans (.run n h1) (.shrink ids h)
  · cases h
theorem Goes.runF {X : Ctx} {c c' : Cfg} {n : Nat} {l : List Nat} (h : runF X n l c = some c') : Goes X c c' := by
  unfold Ideal.runF at h
  split at h
  · rename_i c1 h1
    exact .trans (.run n h1) (.forget l h)
  · cases h

theorem keepT_get (m : Tr IObj) : ∀ (ids : List Nat) (b : Nat) (o : IObj), (keepT m ids).get b = some o → m.get b = some o := by
  intro ids
  induction ids with
  | nil => intro b o h; simp [keepT, Tr.get_leaf] at h
  | cons i r ih =>
    intro b o h
    simp only [keepT] at h
    rw [Tr.get_put] at h
    by_cases e : b = i
    · subst e; rw [if_pos rfl] at h; exact h
    · rw [if_neg e] at h; exact ih b o h

section
variable {X : Ctx} {base : Env} {W0 : World} {μ : Inj} {H : IHeap} {W : World}

theorem HRel.sub {H' : IHeap} (h : HRel base W0 μ H W) (hs : ∀ b o, H'.get b = some o → H.get b = some o) (hn : H'.next = H.next) : HRel base W0 μ H' W :=
  ⟨fun b o hb => h.obj b o (hs b o hb), fun b o hb => h.own b o (hs b o hb), fun b1 b2 o1 o2 h1 h2 => h.inj b1 b2 o1 o2 (hs _ _ h1) (hs _ _ h2),
    fun b hb => (by
      have hb' : H.next ≤ b := by rw [← hn]; exact hb
      refine ⟨?_, (h.fresh b hb').2⟩
      cases hg : H'.get b with
      | none => rfl
      | some o =>
        have := (h.fresh b hb').1
        rw [hs _ _ hg] at this
        cases this),
    h.bound, h.size, h.below, h.out, h.os,
    let ⟨φ, q⟩ := h.abs; ⟨φ, fun b' a ro T' h1 h2 => q.rep b' a ro T' (hs _ _ h1) h2, fun b' a ro T' h1 h2 b2 o2 T2 h3 h4 h5 => q.far b' a ro T' (hs _ _ h1) h2 b2 o2 T2 (hs _ _ h3) h4 h5⟩, h.le, h.grow⟩

theorem FRel.bare {H' : IHeap} {g : List Nat} {f : IFrame} {f' : Frame} (h : FRel X μ H g f f') (hg : noGhost X.P f.todo = true) : FRel X μ H' [] f f' := by
  cases h with
  | plain fn t n tm todo todo' ds ds' r kd rd rd' ht hi hd hr => exact .plain fn t n tm todo todo' ds ds' r kd rd rd' ht hi hd hr
  | susp fn t n tm ops x o rest idx D G k k' ds ds' kd rd rd' ho hD hkk hd hr =>
    simp only [noGhost, List.all_eq_true] at hg
    have hD' : DRel X μ H' ops t n tm D (.op x o :: rest) (x :: idx) [] (FactSusp rest) := by
      refine ⟨hD.stat, hD.wf, hD.okp, hD.topo, hD.clo, hD.dcl, hD.sz, hD.tmp, ?_, hD.dlt, by simp, by simp⟩
      intro i o' ho' h1 h2
      obtain ⟨d, e1, e0, e2⟩ := hD.pen i o' ho' h1 h2
      refine ⟨d, e1, e0, ?_⟩
      rcases e2 with e2 | e2 | ⟨_, e3, _⟩
      · exact .inl e2
      · exact .inr (.inl e2)
      · exfalso
        have hm : o' ∈ ops.toList := by
          rw [← Array.getElem?_toList] at ho'
          exact List.mem_of_getElem? ho'
        have := hg o' hm
        rw [e3] at this
        cases this
    exact .susp fn t n tm ops x o rest idx D [] k k' ds ds' kd rd rd' ho hD' hkk hd hr
theorem FsRel.bare {H' : IHeap} {gs : List Nat} {l : List IFrame} {l' : List Frame} (h : FsRel X μ H gs l l') (hg : l.all (fun f => noGhost X.P f.todo) = true) : FsRel X μ H' [] l l' := by
  induction h with
  | nil => exact .nil
  | cons h _ ih =>
    simp only [List.all_cons, Bool.and_eq_true] at hg
    exact .cons (g := []) (gs := []) (h.bare hg.1) (ih hg.2)

theorem shrink_sim {ids : List Nat} {c c' : Cfg} {fr : Frame} {cs : List Frame} (h : shrink X.P ids c = some c') (hm : MRel X base W0 μ c fr cs W) : MRel X base W0 μ c' fr cs W := by
  obtain ⟨f, l, H⟩ := c
  unfold shrink at h
  cases hb : okShrink X.P ⟨f, l, H⟩
  · simp only [hb, cond_false] at h; cases h
  · simp only [hb, cond_true] at h; cases h
    simp only [okShrink, Bool.and_eq_true] at hb
    obtain ⟨h1, h2, g, gs, h3, h4, h5⟩ := hm
    refine ⟨h1.sub (fun b o => keepT_get H.m ids b o) rfl, h2, [], [], ?_, h4.bare hb.2, by simp⟩
    simp only at h3 hb
    cases h3 with
    | plain fn t n tm todo todo' ds ds' r kd rd rd' ht hi hd hr => exact .plain fn t n tm todo todo' ds ds' r kd rd rd' ht hi hd hr
    | drawn fn t n tm ops plan idx D G k k' ds ds' kd rd rd' hD hk hd hr => have := hb.1; cases this

theorem forgetT_rel {n : Nat} {tm : Array Value} : ∀ (l : List Nat) {t : Tr Value}, TRel μ t n tm → TRel μ (forgetT l t) n tm := by
  intro l
  induction l with
  | nil => intro t h; exact h
  | cons i r ih =>
    intro t h
    have h1 := ih h
    refine ⟨h1.1, fun u => ?_⟩
    simp only [forgetT]
    by_cases e : u = i
    · subst e; rw [look_put_same]; exact .junk _
    · rw [look_put_ne _ _ e]; exact h1.2 u
theorem forget_sim {l : List Nat} {c c' : Cfg} {fr : Frame} {cs : List Frame} (h : forget l c = some c') (hm : MRel X base W0 μ c fr cs W) : MRel X base W0 μ c' fr cs W := by
  obtain ⟨⟨fn, t, n, todo, ds, r, kd, rd⟩, l1, H⟩ := c
  unfold forget at h
  simp only at h
  cases hb : plainHead todo
  · simp only [hb, cond_false] at h; cases h
  · simp only [hb, cond_true] at h; cases h
    obtain ⟨h1, h2, g, gs, h3, h4, h5⟩ := hm
    refine ⟨h1, h2, g, gs, ?_, h4, h5⟩
    simp only at h3
    cases h3 with
    | plain _ _ _ tm _ todo' _ ds' _ _ _ rd' ht hi hd hr => exact .plain fn _ n tm todo todo' ds ds' r kd rd rd' (forgetT_rel l ht) hi hd hr
    | drawn _ _ _ tm ops plan idx D G k k' _ ds' _ _ rd' hD hk hd hr => cases hb

theorem goes_sim (hok : IntrOk X base W0) (hplan : PlanOk X) {cs0 : List Frame} {c c' : Cfg} (hg : Goes X c c') : ∀ (μ : Inj) (fr : Frame) (cs : List Frame) (W : World), MRel X base W0 μ c fr cs W →
    ∃ μ' fr1 cs1 W1, Steps X.P (lone fr (cs ++ cs0) W) (lone fr1 (cs1 ++ cs0) W1) ∧ MRel X base W0 μ' c' fr1 cs1 W1 := by
  induction hg with
  | run n h => intro μ fr cs W hm; exact run_sim hok hplan n _ _ μ fr cs W h hm
  | shrink ids h => intro μ fr cs W hm; exact ⟨μ, fr, cs, W, .refl _ _, shrink_sim h hm⟩
  | forget l h => intro μ fr cs W hm; exact ⟨μ, fr, cs, W, .refl _ _, forget_sim h hm⟩
  | trans _ _ ih1 ih2 =>
    intro μ fr cs W hm
    obtain ⟨μ1, fr1, cs1, W1, s1, m1⟩ := ih1 μ fr cs W hm
    obtain ⟨μ2, fr2, cs2, W2, s2, m2⟩ := ih2 μ1 fr1 cs1 W1 m1
    exact ⟨μ2, fr2, cs2, W2, s1.trans s2, m2⟩

theorem calls_goes (hok : IntrOk X base W0) (hplan : PlanOk X) (hH : HRel base W0 μ H W) (hlaid : LaidRel X μ) {f : FuncId} {n : Nat} {code : Code} (he : entry X.P f = some (n, code)) {args : List Value} {args' : Array Value} (ha : LRel μ args args'.toList) (hn : args.length ≤ n)
    {c' : Cfg} {v : Value} {H' : IHeap} (hrun : Goes X (startC f (fillTmps 0 args .leaf) n code H) c') (hd : doneF X f c' = some (v, H')) :
    Calls X.P f args' W fun e W' => ∃ v' μ', e = .returned v' ∧ HRel base W0 μ' H' W' ∧ VRel μ' v v' := by
  intro cs
  obtain ⟨μ', fr, cs1, W1, hs, hm⟩ := goes_sim (cs0 := cs) hok hplan hrun μ _ [] W (start_rel hH hlaid he ha hn)
  obtain ⟨rfl, hf, v', h1, h2, h3⟩ := done_rel hm hd
  have hs' : Steps X.P (lone (Frame.enter X.P f args' .normal) cs W) (lone fr cs W1) := by simpa using hs
  exact ⟨.returned v', W1, fr, ⟨v', μ', rfl, h2, h3⟩, hs', hf, h1⟩

/-- A function of plain arguments that gives a plain value, run from its beginning: it leaves alone what was there. -/
theorem pure_goes (Y : Ctx) (hP : Y.P = X.P) (hL : Y.laid = X.laid) (hW : LaidW X base W0) (hok : ∀ base W0, LaidW Y base W0 → IntrOk Y base W0) (hplan : PlanOk Y) {f : FuncId} {n N : Nat} {code : Code} (he : entry Y.P f = some (n, code)) {args : List Value} (hfl : args.all flat = true)
    (hn : args.length ≤ n) (hN : ∀ p ∈ Y.laid, p.1 < N) {c' : Cfg} {v : Value} {H1 : IHeap} (hrun : Goes Y (startC f (fillTmps 0 args .leaf) n code (heap0 Y.laid N)) c') (hd : doneF Y f c' = some (v, H1)) (hv : flat v = true)
    (hH : HRel base W0 μ H W) {args' : Array Value} (ha : LRel μ args args'.toList) : Calls X.P f args' W fun e W' => ∃ v' μ', e = .returned v' ∧ HRel base W0 μ' H W' ∧ VRel μ' v v' ∧ Evolve μ H μ' H := by
  have hW1 : LaidW Y (base.at W) W := by
    have := hW.carry hH
    unfold LaidW at this ⊢
    rw [hL]; exact this
  obtain ⟨s1, s2⟩ := start0 (X := Y) hW1 (none_le _) (fun _ hi => hi) hN
  have hargs : args'.toList = args := flats_eq args _ hfl ha
  have hc := calls_goes (args' := args') (hok _ _ hW1) hplan s1 s2 he (by rw [hargs]; exact flats_refl args hfl) hn hrun hd
  rw [hP] at hc
  refine hc.mono fun e W' ⟨v', μ', h1, h2, h3⟩ => ⟨v', μ, h1, hH.carry (size_of_kept h2) h2.below h2.out h2.os, ?_, Evolve.refl _ _⟩
  rw [flat_eq hv h3]; exact flat_refl hv
end

/-! Functions whose value is known: called with these, it gives this. -/
structure Known where
  f : FuncId
  args : List Value
  v : Value
noncomputable def knownF (k : Known) : IFun := fun args H => bif sameL (sameN 8) args k.args then some (k.v, H) else none
noncomputable def intrK : List Known → FuncId → Option IFun
  | [], _ => none
  | k :: r, f => bif Nat.beq k.f f then some (knownF k) else intrK r f
noncomputable def ctxK (P : Program) (laid : List (Nat × List Value)) (ks : List Known) : Ctx := ⟨P, laid, intrK ks, planOf P⟩

/-- The function is known to do so, whatever the heap. -/
def KnownOk (P : Program) (laid : List (Nat × List Value)) (k : Known) : Prop :=
  (∃ n c, entry P k.f = some (n, c)) ∧ ∀ base W0 μ H W (args' : Array Value), LaidW ⟨P, laid, fun _ => none, planOf P⟩ base W0 → HRel base W0 μ H W → LRel μ k.args args'.toList →
    Calls P k.f args' W fun e W' => ∃ v' μ', e = .returned v' ∧ HRel base W0 μ' H W' ∧ VRel μ' k.v v' ∧ Evolve μ H μ' H

theorem intrK_mem : ∀ {ks : List Known} {f : FuncId} {F : IFun}, intrK ks f = some F → ∃ k ∈ ks, k.f = f ∧ F = knownF k := by
  intro ks
  induction ks with
  | nil => intro f F h; cases h
  | cons k r ih =>
    intro f F h
    unfold intrK at h
    cases hb : Nat.beq k.f f
    · rw [hb] at h
      obtain ⟨k', h1, h2⟩ := ih h
      exact ⟨k', by simp [h1], h2⟩
    · rw [hb] at h; cases h
      exact ⟨k, by simp, Nat.eq_of_beq_eq_true hb, rfl⟩
theorem intrOk_of {P : Program} {laid : List (Nat × List Value)} {ks : List Known} (hk : ∀ k ∈ ks, KnownOk P laid k) (base : Env) (W0 : World) (hW : LaidW (ctxK P laid ks) base W0) : IntrOk (ctxK P laid ks) base W0 := by
  intro f F hf
  obtain ⟨k, h1, rfl, rfl⟩ := intrK_mem hf
  refine ⟨(hk k h1).1, ?_⟩
  intro μ H W args args' v H' hH hl ha hF
  unfold knownF at hF
  cases hb : sameL (sameN 8) args k.args
  · rw [hb] at hF; cases hF
  · rw [hb] at hF; cases hF
    obtain rfl := sameL_eq (sameN_eq 8) _ _ hb
    exact (hk k h1).2 base W0 μ H W args' hW hH ha

theorem known_of {P : Program} {laid : List (Nat × List Value)} {ks : List Known} (hk : ∀ k ∈ ks, KnownOk P laid k) (hm : P.follows .mixedOrders = true) {k : Known} {n N : Nat} {code : Code} (he : entry P k.f = some (n, code)) (hfl : k.args.all flat = true) (hn : k.args.length ≤ n) (hN : ∀ p ∈ laid, p.1 < N)
    {c' : Cfg} {H1 : IHeap} (hrun : Goes (ctxK P laid ks) (startC k.f (fillTmps 0 k.args .leaf) n code (heap0 laid N)) c') (hd : doneF (ctxK P laid ks) k.f c' = some (k.v, H1)) (hv : flat k.v = true) : KnownOk P laid k :=
  ⟨⟨n, code, he⟩, fun _ _ _ _ _ _ hW hH ha => pure_goes (X := ⟨P, laid, fun _ => none, planOf P⟩) (ctxK P laid ks) rfl rfl hW (intrOk_of hk) (planOk_of hm rfl) he hfl hn hN hrun hd hv hH ha⟩

/-! Writing down a configuration. -/
noncomputable def mkT : List (Nat × Value) → Tr Value
  | [] => .leaf
  | (i, v) :: r => (mkT r).put i (some v)
noncomputable def mkH : List (Nat × IObj) → Tr IObj
  | [] => .leaf
  | (i, v) :: r => (mkH r).put i (some v)
def subC : Code → List Nat → Code
  | c, [] => c
  | .seq a b, i :: r => bif Nat.beq i 0 then subC a r else subC b r
  | .cond _ a b, i :: r => bif Nat.beq i 0 then subC a r else subC b r
  | .block _ b, _ :: r => subC b r
  | .loop b, _ :: r => subC b r
  | .scope b, _ :: r => subC b r
  | .rangeFunc _ _ a b, i :: r => bif Nat.beq i 0 then subC a r else subC b r
  | c, _ :: _ => c
def pcOf (P : Program) (f : FuncId) (l : List Nat) : Code := match entry P f with
  | some (_, c) => subC c l
  | none => .skip
def opsOf : Code → Array Oper
  | .region _ ops _ => ops
  | _ => #[]
def regOf (c : Code) (k : Nat) : IItem := .reg (opsOf c) ((opsOf c).toList.drop k)
def dregOf (P : Program) (c : Code) (k : Nat) : IItem := .dreg (opsOf c) (match planOf P (opsOf c) with
  | some p => p.drop k
  | none => [])
def intsGo (k : IntKind) (w : Nat) : Nat → Nat → List Value
  | 0, _ => []
  | n + 1, m => .int k (Int.ofNat (m % w)) :: intsGo k w n (m / w)
def bsS (l : List Nat) : ByteArray := ⟨⟨l.map UInt8.ofNat⟩⟩
def pt (b o : Nat) : Value := .pointer (some ⟨b, o, none⟩)
def sl (b o l c : Nat) : Value := .slice (some ⟨b, o, none⟩) l c
def u8s (n m : Nat) : List Value := intsGo .u8 256 n m
def u32s (n m : Nat) : List Value := intsGo .u32 4294967296 n m
def u64s (n m : Nat) : List Value := intsGo .u64 18446744073709551616 n m

theorem all_lt {laid : List (Nat × List Value)} {N : Nat} (h : laid.all (fun p => Nat.blt p.1 N) = true) : ∀ p ∈ laid, p.1 < N := fun p hp => Nat.le_of_ble_eq_true (List.all_eq_true.1 h p hp)
theorem entry_pc {P : Program} {f : FuncId} {n : Nat} {c : Code} (h : entry P f = some (n, c)) : entry P f = some (n, pcOf P f []) := by
  have hc : subC c [] = c := by cases c <;> rfl
  unfold pcOf; rw [h]; show _ = some (n, subC c []); rw [hc]
/-- What is checked of a known function's run, apart from the run. -/
noncomputable def startOk (P : Program) (laid : List (Nat × List Value)) (k : Known) (n N : Nat) : Bool :=
  P.follows .mixedOrders && k.args.all flat && Nat.ble k.args.length n && laid.all (fun p => Nat.blt p.1 N) && flat k.v && (match entry P k.f with
    | some (m, _) => Nat.beq m n
    | none => false)
theorem known_of2 {P : Program} {laid : List (Nat × List Value)} {ks : List Known} (hk : ∀ k ∈ ks, KnownOk P laid k) {k : Known} {n N : Nat} (hs : startOk P laid k n N = true)
    {c' : Cfg} {H1 : IHeap} (hrun : Goes (ctxK P laid ks) (startC k.f (fillTmps 0 k.args .leaf) n (pcOf P k.f []) (heap0 laid N)) c') (hd : doneF (ctxK P laid ks) k.f c' = some (k.v, H1)) : KnownOk P laid k := by
  simp only [startOk, Bool.and_eq_true] at hs
  obtain ⟨⟨⟨⟨⟨h1, h2⟩, h3⟩, h4⟩, h5⟩, h6⟩ := hs
  have he : entry P k.f = some (n, pcOf P k.f []) := by
    cases h : entry P k.f with
    | none => rw [h] at h6; cases h6
    | some p =>
      obtain ⟨m, c⟩ := p
      rw [h] at h6
      rw [← Nat.eq_of_beq_eq_true h6]
      rw [← h]; exact entry_pc h
  exact known_of hk h1 he h2 (Nat.le_of_ble_eq_true h3) (all_lt h4) hrun hd h5

end Go.Ideal
