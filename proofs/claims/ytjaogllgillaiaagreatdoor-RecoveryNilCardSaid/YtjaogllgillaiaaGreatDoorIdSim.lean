/-
  Part of the proof: the machine that runs a program by fixed orders, and that each of its runs is a run of the model; or a run of it in parts. No conditions.
-/
import Derived.Test.YtjaogllgillaiaaGreatDoorIdDraw2
namespace Go.Ideal
section
variable {X : Ctx} {base : Env} {W0 : World} {μ : Inj} {H : IHeap} {W : World}

/-! The relation of frames. -/
inductive ItRel (μ : Inj) : IItem → Item → Prop where
  | code (c : Code) : ItRel μ (.code c) (.code c)
  | inBlock (id : Nat) : ItRel μ (.inBlock id) (.inBlock id)
  | inLoop (c : Code) : ItRel μ (.inLoop c) (.inLoop c)
  | inScope (c : Code) : ItRel μ (.inScope c) (.inScope c)
  | reg (ops : Array Oper) (l : List Oper) (idx : List Nat) (h : idx.map (ops[·]?) = l.map some) : ItRel μ (.reg ops l) (.inRegion ops idx)
  | inRangeFunc (l : Nat) (T : Tgt) (h : μ l = some T) : ItRel μ (.inRangeFunc l) (.inRangeFunc T.c)
  | endRangeFunc (l : Nat) (T : Tgt) (h : μ l = some T) : ItRel μ (.endRangeFunc l) (.endRangeFunc T.c)
  | beginRound : ItRel μ .beginRound .beginRound
inductive ItsRel (μ : Inj) : List IItem → List Item → Prop where
  | nil : ItsRel μ [] []
  | cons {x : IItem} {x' : Item} {l : List IItem} {l' : List Item} (h : ItRel μ x x') (t : ItsRel μ l l') : ItsRel μ (x :: l) (x' :: l')
inductive RdRel (μ : Inj) : Option Nat → Option Nat → Prop where
  | none : RdRel μ none none
  | some (l : Nat) (T : Tgt) (h : μ l = some T) : RdRel μ (some l) (some T.c)

theorem ItRel.mono {μ ν : Inj} (hl : μ.le ν) {x : IItem} {x' : Item} (h : ItRel μ x x') : ItRel ν x x' := by
  cases h with
  | code c => exact .code c
  | inBlock id => exact .inBlock id
  | inLoop c => exact .inLoop c
  | inScope c => exact .inScope c
  | reg ops l idx h => exact .reg ops l idx h
  | inRangeFunc l T h => exact .inRangeFunc l T (hl _ _ h)
  | endRangeFunc l T h => exact .endRangeFunc l T (hl _ _ h)
  | beginRound => exact .beginRound
theorem ItsRel.mono {μ ν : Inj} (hl : μ.le ν) {x : List IItem} {x' : List Item} (h : ItsRel μ x x') : ItsRel ν x x' := by
  induction h with
  | nil => exact .nil
  | cons h _ ih => exact .cons (h.mono hl) ih
theorem RdRel.mono {μ ν : Inj} (hl : μ.le ν) {x x' : Option Nat} (h : RdRel μ x x') : RdRel ν x x' := by
  cases h with
  | none => exact .none
  | some l T h => exact .some l T (hl _ _ h)

def modeOf (r : Bool) : FrameMode := bif r then .returning else .run

/-! Regions that draw their order. -/
def PlanWf (ops : Array Oper) (plan : List PE) : Prop := ∀ e ∈ plan, match e with | .op i o => ops[i]? = some o | .chk i o => ops[i]? = some o
def Topo (ops : Array Oper) : List Nat → Prop
  | [] => True
  | i :: r => (∃ o, ops[i]? = some o ∧ ∀ d ∈ depsOf o, d ∉ i :: r) ∧ i ∉ r ∧ Topo ops r
/-- A value that is there, or a place that will be made. -/
def APend (X : Ctx) (μ : Inj) (H : IHeap) (t : Tr Value) (o : Oper) (v : Value) (b : Nat) : Prop :=
  ∃ (obj : IObj) (mk : Nat → Value), v = mk b ∧ (∀ H2, iop X.P (ieval X t) o H2 = some (mk H2.next, H2.alloc obj)) ∧ b < H.next ∧ μ b = none ∧ H.get b = some obj
def PenOf (X : Ctx) (μ : Inj) (H : IHeap) (ops : Array Oper) (t : Tr Value) (G : List (Nat × Nat)) (Fact : Nat → Oper → Nat → Prop) (i : Nat) (o : Oper) : Prop :=
  ∃ d, o.dst = some d ∧ clsOf X.P o ≠ 2 ∧ ((wantedI ops o t = some false ∧ look t d = Go.undef) ∨ (wantedI ops o t = some true ∧ clsOf X.P o = 0 ∧ Fact i o d) ∨
    (wantedI ops o t = some true ∧ clsOf X.P o = 1 ∧ ∃ b, (i, b) ∈ G ∧ APend X μ H t o (look t d) b))
structure DRel (X : Ctx) (μ : Inj) (H : IHeap) (ops : Array Oper) (t : Tr Value) (n : Nat) (tm : Array Value) (D : List Nat) (plan : List PE) (idx : List Nat) (G : List (Nat × Nat)) (Fact : Nat → Oper → Nat → Prop) : Prop where
  stat : okStat X.P ops = true
  wf : PlanWf ops plan
  okp : okPlan X.P ops D plan = true
  topo : Topo ops idx
  clo : ∀ i o, ops[i]? = some o → i ∉ idx → i ∈ D ∧ ∀ d ∈ depsOf o, d ∉ idx
  dcl : ∀ i o, ops[i]? = some o → i ∈ D → ∀ d ∈ depsOf o, d ∈ D
  sz : tm.size = n
  tmp : ∀ u, (∀ i o, ops[i]? = some o → i ∈ D → i ∈ idx → o.dst ≠ some u) → VRel μ (look t u) (tm.getD u Go.undef)
  pen : ∀ i o, ops[i]? = some o → i ∈ D → i ∈ idx → PenOf X μ H ops t G Fact i o
  dlt : ∀ i o d, ops[i]? = some o → i ∈ D → o.dst = some d → d < n
  gnd : (G.map Prod.snd).Nodup
  glt : ∀ b ∈ G.map Prod.snd, b < H.next
def FactNow (X : Ctx) (H : IHeap) (t : Tr Value) (plan : List PE) (i : Nat) (o : Oper) (d : Nat) : Prop := i ∈ lead plan ∨ ∃ H1, iop X.P (ieval X t) o H = some (look t d, H1)
def FactSusp (rest : List PE) (i : Nat) (_ : Oper) (_ : Nat) : Prop := i ∈ lead rest

/-- A frame that waits for a call. -/
inductive FRel (X : Ctx) (μ : Inj) (H : IHeap) : List Nat → IFrame → Frame → Prop where
  | plain (fn : FuncId) (t : Tr Value) (n : Nat) (tm : Array Value) (todo : List IItem) (todo' : List Item) (ds ds' : List Deferred) (r : Bool) (kd : CallKind) (rd rd' : Option Nat)
      (ht : TRel μ t n tm) (hi : ItsRel μ todo todo') (hd : DefsRel μ ds ds') (hr : RdRel μ rd rd') :
      FRel X μ H [] ⟨fn, t, n, todo, ds, r, kd, rd⟩ ⟨fn, tm, todo', ds', modeOf r, kd, rd'⟩
  | susp (fn : FuncId) (t : Tr Value) (n : Nat) (tm : Array Value) (ops : Array Oper) (x : Nat) (o : Oper) (rest : List PE) (idx D : List Nat) (G : List (Nat × Nat)) (k : List IItem) (k' : List Item) (ds ds' : List Deferred) (kd : CallKind) (rd rd' : Option Nat)
      (ho : ops[x]? = some o) (hD : DRel X μ H ops t n tm D (.op x o :: rest) (x :: idx) G (FactSusp rest)) (hk : ItsRel μ k k') (hd : DefsRel μ ds ds') (hr : RdRel μ rd rd') :
      FRel X μ H (G.map Prod.snd) ⟨fn, t, n, .dreg ops (.op x o :: rest) :: k, ds, false, kd, rd⟩ ⟨fn, tm, .inRegion ops (x :: idx) :: k', ds', .run, kd, rd'⟩
/-- The frame that runs. -/
inductive TopRel (X : Ctx) (μ : Inj) (H : IHeap) : List Nat → IFrame → Frame → Prop where
  | plain (fn : FuncId) (t : Tr Value) (n : Nat) (tm : Array Value) (todo : List IItem) (todo' : List Item) (ds ds' : List Deferred) (r : Bool) (kd : CallKind) (rd rd' : Option Nat)
      (ht : TRel μ t n tm) (hi : ItsRel μ todo todo') (hd : DefsRel μ ds ds') (hr : RdRel μ rd rd') :
      TopRel X μ H [] ⟨fn, t, n, todo, ds, r, kd, rd⟩ ⟨fn, tm, todo', ds', modeOf r, kd, rd'⟩
  | drawn (fn : FuncId) (t : Tr Value) (n : Nat) (tm : Array Value) (ops : Array Oper) (plan : List PE) (idx D : List Nat) (G : List (Nat × Nat)) (k : List IItem) (k' : List Item) (ds ds' : List Deferred) (kd : CallKind) (rd rd' : Option Nat)
      (hD : DRel X μ H ops t n tm D plan idx G (FactNow X H t plan)) (hk : ItsRel μ k k') (hd : DefsRel μ ds ds') (hr : RdRel μ rd rd') :
      TopRel X μ H (G.map Prod.snd) ⟨fn, t, n, .dreg ops plan :: k, ds, false, kd, rd⟩ ⟨fn, tm, .inRegion ops idx :: k', ds', .run, kd, rd'⟩
inductive FsRel (X : Ctx) (μ : Inj) (H : IHeap) : List Nat → List IFrame → List Frame → Prop where
  | nil : FsRel X μ H [] [] []
  | cons {g gs : List Nat} {f : IFrame} {f' : Frame} {l : List IFrame} {l' : List Frame} (h : FRel X μ H g f f') (t : FsRel X μ H gs l l') : FsRel X μ H (g ++ gs) (f :: l) (f' :: l')

/-- What happens to the map and the heap, as far as frames look at them. -/
structure Keeps (gs : List Nat) (μ : Inj) (H : IHeap) (μ' : Inj) (H' : IHeap) : Prop where
  le : μ.le μ'
  next : H.next ≤ H'.next
  ghost : ∀ b ∈ gs, b < H.next → μ b = none → μ' b = none ∧ H'.get b = H.get b
theorem Evolve.keeps {μ' : Inj} {H' : IHeap} (h : Evolve μ H μ' H') (gs : List Nat) : Keeps gs μ H μ' H' := ⟨h.le, h.next, fun b _ => h.ghost b⟩
theorem Keeps.sub {gs gs' : List Nat} {μ' : Inj} {H' : IHeap} (h : Keeps gs μ H μ' H') (hs : ∀ b ∈ gs', b ∈ gs) : Keeps gs' μ H μ' H' := ⟨h.le, h.next, fun b hb => h.ghost b (hs b hb)⟩
theorem Keeps.refl (gs : List Nat) (μ : Inj) (H : IHeap) : Keeps gs μ H μ H := ⟨Inj.le_refl _, Nat.le_refl _, fun _ _ _ h => ⟨h, rfl⟩⟩
theorem Keeps.trans {gs : List Nat} {μ1 μ2 : Inj} {H1 H2 : IHeap} (h : Keeps gs μ H μ1 H1) (h' : Keeps gs μ1 H1 μ2 H2) : Keeps gs μ H μ2 H2 :=
  ⟨Inj.le_trans h.le h'.le, Nat.le_trans h.next h'.next, fun b hb hlt hm =>
    have h1 := h.ghost b hb hlt hm
    have h2 := h'.ghost b hb (Nat.lt_of_lt_of_le hlt h.next) h1.1
    ⟨h2.1, h2.2.trans h1.2⟩⟩

theorem PenOf.mono {μ' : Inj} {H' : IHeap} {ops : Array Oper} {t : Tr Value} {G : List (Nat × Nat)} {Fact : Nat → Oper → Nat → Prop} {i : Nat} {o : Oper} (hk : Keeps (G.map Prod.snd) μ H μ' H') (h : PenOf X μ H ops t G Fact i o) : PenOf X μ' H' ops t G Fact i o := by
  obtain ⟨d, hd, hc2, h⟩ := h
  refine ⟨d, hd, hc2, ?_⟩
  rcases h with h | h | ⟨h1, h2, b, hb, obj, mk, e1, e2, e3, e4, e5⟩
  · exact .inl h
  · exact .inr (.inl h)
  · have hg := hk.ghost b (List.mem_map.2 ⟨_, hb, rfl⟩) e3 e4
    exact .inr (.inr ⟨h1, h2, b, hb, obj, mk, e1, e2, Nat.lt_of_lt_of_le e3 hk.next, hg.1, by rw [hg.2]; exact e5⟩)
theorem DRel.mono {μ' : Inj} {H' : IHeap} {ops : Array Oper} {t : Tr Value} {n : Nat} {tm : Array Value} {D : List Nat} {plan : List PE} {idx : List Nat} {G : List (Nat × Nat)} {Fact : Nat → Oper → Nat → Prop}
    (hk : Keeps (G.map Prod.snd) μ H μ' H') (h : DRel X μ H ops t n tm D plan idx G Fact) : DRel X μ' H' ops t n tm D plan idx G Fact :=
  ⟨h.stat, h.wf, h.okp, h.topo, h.clo, h.dcl, h.sz, fun u hu => (h.tmp u hu).mono hk.le, fun i o ho h1 h2 => (h.pen i o ho h1 h2).mono hk, h.dlt, h.gnd, fun b hb => Nat.lt_of_lt_of_le (h.glt b hb) hk.next⟩
theorem FRel.mono {g : List Nat} {μ' : Inj} {H' : IHeap} (hk : Keeps g μ H μ' H') {f : IFrame} {f' : Frame} (h : FRel X μ H g f f') : FRel X μ' H' g f f' := by
  cases h with
  | plain fn t n tm todo todo' ds ds' r kd rd rd' ht hi hd hr => exact .plain fn t n tm todo todo' ds ds' r kd rd rd' (ht.mono hk.le) (hi.mono hk.le) (hd.mono hk.le) (hr.mono hk.le)
  | susp fn t n tm ops x o rest idx D G k k' ds ds' kd rd rd' ho hD hkk hd hr => exact .susp fn t n tm ops x o rest idx D G k k' ds ds' kd rd rd' ho (hD.mono hk) (hkk.mono hk.le) (hd.mono hk.le) (hr.mono hk.le)
theorem FsRel.mono {g : List Nat} {μ' : Inj} {H' : IHeap} {f : List IFrame} {f' : List Frame} (h : FsRel X μ H g f f') (hk : Keeps g μ H μ' H') : FsRel X μ' H' g f f' := by
  induction h with
  | nil => exact .nil
  | cons h _ ih => exact .cons (h.mono (hk.sub fun b hb => by simp [hb])) (ih (hk.sub fun b hb => by simp [hb]))
theorem FRel.lt {g : List Nat} {f : IFrame} {f' : Frame} (h : FRel X μ H g f f') : ∀ b ∈ g, b < H.next := by
  cases h with
  | plain => intro b hb; simp at hb
  | susp fn t n tm ops x o rest idx D G k k' ds ds' kd rd rd' ho hD hkk hd hr => exact hD.glt
theorem FsRel.lt {g : List Nat} {f : List IFrame} {f' : List Frame} (h : FsRel X μ H g f f') : ∀ b ∈ g, b < H.next := by
  induction h with
  | nil => intro b hb; simp at hb
  | cons h _ ih =>
    intro b hb
    rcases List.mem_append.1 hb with hb | hb
    · exact h.lt b hb
    · exact ih b hb

def LaidRel (X : Ctx) (μ : Inj) : Prop := ∀ g, X.laid.any (fun p => Nat.beq g p.1) = true → ∃ T, μ g = some T ∧ T.c = g ∧ T.d = 0
theorem LaidRel.mono {μ' : Inj} (hl : μ.le μ') (h : LaidRel X μ) : LaidRel X μ' := fun g hg => let ⟨T, h1, h2⟩ := h g hg; ⟨T, hl _ _ h1, h2⟩

/-- The machine is as the configuration says. -/
structure MRel (X : Ctx) (base : Env) (W0 : World) (μ : Inj) (c : Cfg) (fr : Frame) (cs : List Frame) (W : World) : Prop where
  heap : HRel base W0 μ c.H W
  laid : LaidRel X μ
  frames : ∃ g gs, TopRel X μ c.H g c.fr fr ∧ FsRel X μ c.H gs c.cs cs ∧ (g ++ gs).Nodup

def StepSim (X : Ctx) (base : Env) (W0 : World) (cs0 : List Frame) (c' : Cfg) (m : Machine) : Prop :=
  ∃ μ' fr cs W, Steps X.P m (lone fr (cs ++ cs0) W) ∧ MRel X base W0 μ' c' fr cs W

theorem eval_rel' (hl : LaidRel X μ) {t : Tr Value} {fr : Frame} (x : Operand) (ht : ∀ u, x = .tmp u → VRel μ (look t u) (fr.tmps.getD u Go.undef)) : VRel μ (ieval X t x) (fr.eval x) := by
  cases x with
  | tmp i => exact ht i rfl
  | const v =>
    simp only [ieval, Frame.eval]
    cases hf : flat v
    · exact .junk v
    · exact flat_refl hf
  | global g =>
    simp only [ieval, Frame.eval]
    cases hg : X.laid.any (fun p => Nat.beq g p.1)
    · exact .junk _
    · obtain ⟨T, h1, h2, h3⟩ := hl g hg
      have := VRel.ptr (μ := μ) g 0 T h1
      rw [h2, h3] at this
      exact this
  | func f => exact VRel.func_iff.2 ⟨_, _, _, rfl, .func f, .nil, .nil⟩
theorem eval_rel (hl : LaidRel X μ) {t : Tr Value} {n : Nat} {fr : Frame} (ht : TRel μ t n fr.tmps) (x : Operand) : VRel μ (ieval X t x) (fr.eval x) := eval_rel' hl x fun u _ => ht.2 u

theorem wanted_rel' {ops : Array Oper} {o : Oper} {t : Tr Value} {tm : Array Value} (ht : ∀ j w d, o.guard = some (j, w) → guardVal ops j = some d → VRel μ (look t d) (tm.getD d Go.undef)) {b : Bool} (h : wantedI ops o t = some b) : Region.wanted o (yielded ops tm) = b := by
  unfold wantedI at h
  unfold Region.wanted
  cases hg : o.guard with
  | none => simp [hg] at h; simp [← h]
  | some jw =>
    obtain ⟨j, want⟩ := jw
    simp only [hg] at h ⊢
    have ht' := fun d hd => ht j want d hg hd
    unfold guardVal at h ht'
    rw [Array.getElem?_toList] at h ht'
    unfold yielded
    cases hj : ops[j]? with
    | none => simp [hj] at h; simp [← h]
    | some oj =>
      simp only [hj] at h ht'
      cases hd : oj.dst with
      | none => simp [hd] at h; simp [hd, ← h]
      | some d =>
        simp only [hd] at h ht'
        have hr := ht' d rfl
        simp only [Option.bind_some, hd]
        split at h
        · rename_i x hx
          rw [hx] at hr
          have hc : tm[d]? = some (.bool x) := by
            rw [Array.getD_eq_getD_getElem?] at hr
            cases hq : tm[d]? with
            | none => rw [hq] at hr; simp only [Option.getD_none] at hr; cases hr
            | some q => rw [hq] at hr; simp only [Option.getD_some] at hr; cases hr; rfl
          simp only [hc]
          cases h
          cases want <;> cases x <;> rfl
        · rename_i xs hx
          rw [hx] at hr
          cases h
          rw [Array.getD_eq_getD_getElem?] at hr
          cases hq : tm[d]? with
          | none => rfl
          | some q =>
            rw [hq] at hr; simp only [Option.getD_some] at hr
            cases hr; rfl
        · cases h
theorem wanted_rel {ops : Array Oper} {o : Oper} {t : Tr Value} {n : Nat} {tm : Array Value} (ht : TRel μ t n tm) {b : Bool} (h : wantedI ops o t = some b) : Region.wanted o (yielded ops tm) = b := wanted_rel' (fun _ _ d _ _ => ht.2 d) h

end
end Go.Ideal
