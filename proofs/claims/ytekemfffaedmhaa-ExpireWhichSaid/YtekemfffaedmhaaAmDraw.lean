/- A region that draws its order: any order that it may draw ends as the order of its text. -/
import Derived.Test.YtekemfffaedmhaaAmRegion
set_option linter.all false
namespace Go.Am
section
variable {P : Program} {G : Nat → Option (List D)} {run : Run}

theorem opV_congr {s s' : Slots} (o : Oper) (h : List Obj) (he : ∀ x ∈ o.op.operands, ev G s x = ev G s' x) : opV P G run s h o = opV P G run s' h o := by
  obtain ⟨dst, op, type, pos, after, guard⟩ := o
  have pairs : ∀ ps : Array (Nat × Operand), (∀ x ∈ ps.map (·.2), ev G s x = ev G s' x) →
      (ps.toList.map fun p => (p.1, ev G s p.2)) = (ps.toList.map fun p => (p.1, ev G s' p.2)) := fun ps hp =>
    List.map_congr_left fun p hm => by
      obtain ⟨i, x⟩ := p
      simp only [hp x (Array.mem_map.2 ⟨(i, x), by simpa using hm, rfl⟩)]
  cases op <;> simp only [Op.operands] at he <;> simp only [opV]
  case build t ps => rw [pairs ps fun x hx => he x (by simpa using hx)]
  case buildSlice t n ps => rw [pairs ps fun x hx => he x (by simpa using hx)]
  case makeFunc fn first captured =>
    have : captured.toList.map (ev G s) = captured.toList.map (ev G s') := List.map_congr_left fun x hx => he x (by simp only [Array.mem_append]; exact .inr (by simpa using hx))
    cases fn <;> simp only [this]
  case call c =>
    have hargs : c.args.toList.map (ev G s) = c.args.toList.map (ev G s') := List.map_congr_left fun x hx => he x (by simp only [Call.operands]; simp; exact .inr (by simpa using hx))
    simp only [hargs]
    cases hc : c.callee with
    | value f => have hf : ev G s f = ev G s' f := he f (by simp [Call.operands, hc]); simp only [hf]; rfl
    | invoke r m => rfl
    | builtin b => rfl
  case slice t x lo hi mx => cases lo <;> cases hi <;> cases mx <;> simp_all
  all_goals (first | rfl | (simp_all; done))

theorem blindV_congr {hv : List Obj} {s s' : Slots} (o : Oper) (he : ∀ x ∈ o.op.operands, ev G s x = ev G s' x) : blindV P G hv s o = blindV P G hv s' o := by
  obtain ⟨dst, op, type, pos, after, guard⟩ := o
  cases op <;> simp only [Op.operands] at he <;> simp only [blindV]
  case call c =>
    have hargs : c.args.toList.map (ev G s) = c.args.toList.map (ev G s') := List.map_congr_left fun x hx => he x (by simp only [Call.operands]; simp; exact .inr (by simpa using hx))
    simp only [hargs]
  case slice t x lo hi mx => cases lo <;> cases hi <;> cases mx <;> simp_all
  all_goals (first | rfl | (simp_all; done))

theorem mild_congr {s s' : Slots} (o : Oper) (he : ∀ x ∈ o.op.operands, ev G s x = ev G s' x) : mild G s o = mild G s' o := by
  unfold mild
  cases ho : o.op with
  | call c =>
    rw [ho] at he
    simp only [Op.operands] at he
    cases hc : c.callee with
    | value f =>
      have hf : ev G s f = ev G s' f := he f (by simp [Call.operands, hc])
      have hargs : c.args.toList.map (ev G s) = c.args.toList.map (ev G s') := List.map_congr_left fun x hx => he x (by simp only [Call.operands]; simp; exact .inr (by simpa using hx))
      simp only [hc, hf, hargs]
    | invoke _ _ => simp only [hc]
    | builtin _ => simp only [hc]
  | _ => rfl

theorem execI_congr {hint : List Nat} {hv : List Obj} {i : Nat} {s s' : Slots} (o : Oper) (h : List Obj) (he : ∀ x ∈ o.op.operands, ev G s x = ev G s' x) :
    execI P G run hint hv i s h o = execI P G run hint hv i s' h o := by
  unfold execI
  rw [opV_congr o h he, blindV_congr o he, mild_congr o he]

/-- The value is had without a look at the objects, which stay. -/
def Free (P : Program) (G : Nat → Option (List D)) (run : Run) (hint : List Nat) (hv : List Obj) (i : Nat) (o : Oper) : Prop :=
  ∀ s h x h1, execI P G run hint hv i s h o = some (x, h1) → h1 = h ∧ ∀ h', execI P G run hint hv i s h' o = some (x, h')

def Quiet (P : Program) (G : Nat → Option (List D)) (run : Run) (hint : List Nat) (hv : List Obj) (i : Nat) (o : Oper) : Prop :=
  ∀ s h x h1, execI P G run hint hv i s h o = some (x, h1) → h1 = h

theorem free_of_hint {hint : List Nat} {hv : List Obj} {i : Nat} {o : Oper} (hc : hint.contains i = true) : Free P G run hint hv i o := by
  intro s h x h1 hx
  unfold execI at *
  rw [if_pos hc] at hx
  cases hb : blindV P G hv s o with
  | none => rw [hb] at hx; cases hx
  | some y =>
    rw [hb] at hx
    simp only [withH, Option.map_some, Option.some.injEq, Prod.mk.injEq] at hx
    obtain ⟨rfl, rfl⟩ := hx
    exact ⟨rfl, fun h' => by rw [if_pos hc]; rfl⟩

theorem withH_free {h h1 : List Obj} {y : Option V} {x : V} (hx : withH h y = some (x, h1)) : h1 = h ∧ y = some x := by
  cases y with
  | none => cases hx
  | some y => simp only [withH, Option.map_some, Option.some.injEq, Prod.mk.injEq] at hx; exact ⟨hx.2.symm, by rw [hx.1]⟩

theorem convV_int {src dst : TypeId} {k : IntKind} (hd : P.underlying dst = some (.int k)) {A : V} {h h1 : List Obj} {x : V} (hx : convV P h src dst A = some (x, h1)) :
    h1 = h ∧ ∀ h', convV P h' src dst A = some (x, h') := by
  have e : ∀ h, convV P h src dst A = (readConvV P h src dst A).map fun x => (x, h) := fun h => by
    unfold convV
    split
    · rename_i hd'; rw [hd] at hd'; cases hd'
    · rfl
  have r : ∀ h h', readConvV P h src dst A = readConvV P h' src dst A := fun h h' => by
    unfold readConvV
    rw [hd]
    split <;> simp_all
  rw [e h] at hx
  simp only [Option.map_eq_some_iff, Prod.mk.injEq] at hx
  obtain ⟨y, hy, rfl, rfl⟩ := hx
  exact ⟨rfl, fun h' => by rw [e h', r h' h, hy]; rfl⟩

theorem convV_string {src dst : TypeId} (hd : P.underlying dst = some .string) {A : V} {h h1 : List Obj} {x : V} (hx : convV P h src dst A = some (x, h1)) : h1 = h := by
  unfold convV at hx
  split at hx
  · rename_i hd'; rw [hd] at hd'; cases hd'
  · simp only [Option.map_eq_some_iff, Prod.mk.injEq] at hx
    obtain ⟨y, hy, rfl, rfl⟩ := hx
    rfl

theorem builtinV_fold {b : Builtin} (hb : b = .min ∨ b = .max) {h h1 : List Obj} {ts : List TypeId} {args : List V} {x : V} (hx : builtinV P h b ts args = some (x, h1)) :
    h1 = h ∧ ∀ h', builtinV P h' b ts args = some (x, h') := by
  rcases hb with rfl | rfl <;> cases args with
  | nil => simp [builtinV] at hx
  | cons A Ar =>
    simp only [builtinV, Option.map_eq_some_iff, Prod.mk.injEq] at hx ⊢
    obtain ⟨y, hy, rfl, rfl⟩ := hx
    simp [hy]

theorem builtinV_len {h h1 : List Obj} {ts : List TypeId} {args : List V} {x : V} (hx : builtinV P h .len ts args = some (x, h1)) : h1 = h := by
  cases ts with
  | nil => simp [builtinV] at hx
  | cons t ts =>
    cases args with
    | nil => simp [builtinV] at hx
    | cons A Ar =>
      simp only [builtinV, Option.map_eq_some_iff, Prod.mk.injEq] at hx
      obtain ⟨y, hy, rfl, rfl⟩ := hx
      rfl

theorem still_free {hint : List Nat} {hv : List Obj} {i : Nat} {o : Oper} (hc : classOf P o = .still) : Free P G run hint hv i o := by
  by_cases hh : hint.contains i = true
  · exact free_of_hint hh
  intro s h x h1 hx
  unfold execI at *
  rw [if_neg hh] at hx
  have hm : (hint.isEmpty || mild G s o) = true := by
    by_cases hm : (hint.isEmpty || mild G s o) = true
    · exact hm
    · rw [if_neg hm] at hx; cases hx
  rw [if_pos hm] at hx
  simp only [if_neg hh, if_pos hm]
  cases ho : o.op with
  | move a | assign a =>
    simp only [opV, ho, Option.some.injEq, Prod.mk.injEq] at hx ⊢; obtain ⟨rfl, rfl⟩ := hx; simp
  | pick _ _ _ | binOp _ _ _ _ _ | unOp _ _ _ | fieldAddr _ _ _ | extract _ _ | field _ _ _ | index _ _ _ | typeAssert _ _ _ _ | build _ _ =>
    simp only [opV, ho] at hx ⊢
    obtain ⟨rfl, hy⟩ := withH_free hx
    exact ⟨rfl, fun h' => by rw [hy]; rfl⟩
  | nilCheck a =>
    simp only [opV, ho] at hx ⊢
    cases hv : ev G s a <;> simp only [hv, nilCheckV, Option.some.injEq, Prod.mk.injEq, reduceCtorEq] at hx ⊢ <;> (obtain ⟨rfl, rfl⟩ := hx; simp)
  | convert src dst a =>
    simp only [opV, ho] at hx ⊢
    simp only [classOf, ho] at hc
    split at hc
    · rename_i k hk; exact convV_int hk hx
    · cases hc
    · cases hc
  | call c =>
    simp only [classOf, ho] at hc
    simp only [opV, ho] at hx ⊢
    split at hc
    · cases hc
    · rename_i hcc
      simp only [hcc] at hx ⊢
      exact builtinV_fold (.inl rfl) hx
    · rename_i hcc
      simp only [hcc] at hx ⊢
      exact builtinV_fold (.inr rfl) hx
    · cases hc
  | _ => simp [classOf, ho] at hc

theorem reads_quiet {hint : List Nat} {hv : List Obj} {i : Nat} {o : Oper} (hc : classOf P o = .reads) : Quiet P G run hint hv i o := by
  by_cases hh : hint.contains i = true
  · exact fun s h x h1 hx => (free_of_hint hh s h x h1 hx).1
  intro s h x h1 hx
  unfold execI at *
  rw [if_neg hh] at hx
  have hm : (hint.isEmpty || mild G s o) = true := by
    by_cases hm : (hint.isEmpty || mild G s o) = true
    · exact hm
    · rw [if_neg hm] at hx; cases hx
  rw [if_pos hm] at hx
  cases ho : o.op with
  | load _ _ | indexAddr _ _ _ | slice _ _ _ _ _ =>
    simp only [opV, ho] at hx
    exact (withH_free hx).1
  | convert src dst a =>
    simp only [opV, ho] at hx
    simp only [classOf, ho] at hc
    split at hc
    · cases hc
    · rename_i hk; exact convV_string hk hx
    · cases hc
  | call c =>
    simp only [classOf, ho] at hc
    simp only [opV, ho] at hx
    split at hc
    · rename_i hcc
      simp only [hcc] at hx
      exact builtinV_len hx
    all_goals cases hc
  | _ => simp [classOf, ho] at hc

/-! ### two operations, one behind the other -/

theorem sget_putV (s : Slots) (dst : Option Tmp) (v : V) (t : Nat) : sget (putV s dst v) t = if dst = some t then v else sget s t := by
  cases dst with
  | none => simp [putV]
  | some d =>
    simp only [putV, sget, Option.some.injEq]

/-- The slots say the same. -/
def SEq (s s' : Slots) : Prop := ∀ t, sget s t = sget s' t

theorem SEq.ev {s s' : Slots} (e : SEq s s') (x : Operand) : ev G s x = ev G s' x := by
  cases x <;> first | rfl | exact e _

theorem SEq.put {s s' : Slots} (e : SEq s s') (dst : Option Tmp) (v : V) : SEq (putV s dst v) (putV s' dst v) := fun t => by
  rw [sget_putV, sget_putV, e t]

theorem ev_put {ops : Array Oper} {o : Oper} {dst : Option Tmp} (hd : ∀ d, dst = some d → d ∉ o.looksAt ops) (s : Slots) (v : V) : ∀ x ∈ o.op.operands, ev G (putV s dst v) x = ev G s x := by
  intro x hx
  cases x with
  | tmp t =>
    show sget _ t = sget _ t
    rw [sget_putV, if_neg]
    intro e
    exact hd t e (List.mem_append_left _ (List.mem_filterMap.2 ⟨.tmp t, by simpa using hx, rfl⟩))
  | _ => rfl

theorem wantedV_congr {all : List Oper} {s s' : Slots} (e : SEq s s') (g : Option (Nat × Bool)) : wantedV all s g = wantedV all s' g := by
  unfold wantedV
  cases g with
  | none => rfl
  | some p => simp only [e _]

theorem wantedV_put {all : List Oper} {o : Oper} {dst : Option Tmp} (hd : ∀ d, dst = some d → d ∉ o.looksAt all.toArray) (s : Slots) (v : V) :
    wantedV all (putV s dst v) o.guard = wantedV all s o.guard := by
  unfold wantedV
  cases hg : o.guard with
  | none => rfl
  | some p =>
    obtain ⟨j, want⟩ := p
    simp only
    cases ht : (all[j]?).bind (·.dst) with
    | none => rfl
    | some d =>
      simp only
      rw [sget_putV, if_neg]
      intro e
      exact hd d e (by simp only [Oper.looksAt, hg, List.getElem?_toArray, ht]; simp)

theorem stepI_congr {all : List Oper} {hint : List Nat} {hv : List Obj} {i : Nat} {s s' : Slots} {h : List Obj} (e : SEq s s') {s1 : Slots} {h1 : List Obj} (hr : stepI P G run all hint hv i s h = some (s1, h1)) :
    ∃ s1', stepI P G run all hint hv i s' h = some (s1', h1) ∧ SEq s1 s1' := by
  unfold stepI at *
  cases hi : all[i]? with
  | none => rw [hi] at hr; simp only [Option.some.injEq, Prod.mk.injEq] at hr; obtain ⟨rfl, rfl⟩ := hr; exact ⟨s', rfl, e⟩
  | some o =>
    simp only [hi] at hr ⊢
    rw [← wantedV_congr e]
    cases hw : wantedV all s o.guard with
    | none => rw [hw] at hr; cases hr
    | some b =>
      rw [hw] at hr
      cases b with
      | false =>
        simp only [obind, Bool.false_eq_true, if_false, Option.some.injEq, Prod.mk.injEq] at hr ⊢
        obtain ⟨rfl, rfl⟩ := hr
        exact ⟨_, ⟨rfl, rfl⟩, e.put _ _⟩
      | true =>
        simp only [obind, if_true] at hr ⊢
        rw [execI_congr o h (fun x _ => e.ev x)] at hr
        cases hx : execI P G run hint hv i s' h o with
        | none => rw [hx] at hr; cases hr
        | some p =>
          rw [hx] at hr
          simp only [Option.some.injEq, Prod.mk.injEq] at hr ⊢
          obtain ⟨rfl, rfl⟩ := hr
          exact ⟨_, ⟨rfl, rfl⟩, e.put _ _⟩

theorem runL_congr {all : List Oper} {hint : List Nat} {hv : List Obj} : ∀ (l : List Nat) {s s' : Slots} {h : List Obj} (_ : SEq s s') {s1 : Slots} {h1 : List Obj}, runL P G run all hint hv l s h = some (s1, h1) →
    ∃ s1', runL P G run all hint hv l s' h = some (s1', h1) ∧ SEq s1 s1'
  | [], s, s', h, e, s1, h1, hr => by simp only [runL, Option.some.injEq, Prod.mk.injEq] at hr; obtain ⟨rfl, rfl⟩ := hr; exact ⟨s', rfl, e⟩
  | i :: l, s, s', h, e, s1, h1, hr => by
    simp only [runL] at hr ⊢
    cases hx : stepI P G run all hint hv i s h with
    | none => rw [hx] at hr; cases hr
    | some p =>
      obtain ⟨s2, h2⟩ := p
      rw [hx] at hr
      obtain ⟨s2', hx', e'⟩ := stepI_congr e hx
      rw [hx']
      exact runL_congr l e' hr
theorem execI_put {ops : Array Oper} {hint : List Nat} {hv : List Obj} {i : Nat} {o : Oper} {dst : Option Tmp} (hd : ∀ d, dst = some d → d ∉ o.looksAt ops) (s : Slots) (v : V) (h : List Obj) :
    execI P G run hint hv i (putV s dst v) h o = execI P G run hint hv i s h o := execI_congr o h (ev_put hd s v)

theorem SEq.swap (s : Slots) {x y : Option Tmp} (v u : V) (hd : ∀ d, x = some d → y ≠ some d) : SEq (putV (putV s x v) y u) (putV (putV s y u) x v) := fun t => by
  simp only [sget_putV]
  by_cases h1 : y = some t <;> by_cases h2 : x = some t <;> simp only [h1, h2, if_true, if_false]
  exact absurd h1 (hd t h2)

/-- What operation o yields. -/
def coreI (P : Program) (G : Nat → Option (List D)) (run : Run) (all : List Oper) (hint : List Nat) (hv : List Obj) (i : Nat) (s : Slots) (h : List Obj) (o : Oper) : Option (V × List Obj) :=
  obind (wantedV all s o.guard) fun w => if w then execI P G run hint hv i s h o else some (.tup [], h)

theorem stepI_core {all : List Oper} {hint : List Nat} {hv : List Obj} {i : Nat} {o : Oper} (hi : all[i]? = some o) (s : Slots) (h : List Obj) :
    stepI P G run all hint hv i s h = obind (coreI P G run all hint hv i s h o) fun p => some (putV s o.dst p.1, p.2) := by
  unfold stepI coreI
  simp only [hi]
  cases wantedV all s o.guard with
  | none => rfl
  | some b => cases b <;> rfl

theorem coreI_put {all : List Oper} {hint : List Nat} {hv : List Obj} {i : Nat} {o : Oper} {dst : Option Tmp} (hd : ∀ d, dst = some d → d ∉ o.looksAt all.toArray) (s : Slots) (v : V) (h : List Obj) :
    coreI P G run all hint hv i (putV s dst v) h o = coreI P G run all hint hv i s h o := by
  unfold coreI
  rw [wantedV_put hd, execI_put hd]

theorem Free.core {all : List Oper} {hint : List Nat} {hv : List Obj} {i : Nat} {o : Oper} (hf : Free P G run hint hv i o) {s : Slots} {h h1 : List Obj} {x : V} (hx : coreI P G run all hint hv i s h o = some (x, h1)) :
    h1 = h ∧ ∀ h', coreI P G run all hint hv i s h' o = some (x, h') := by
  unfold coreI at *
  cases hw : wantedV all s o.guard with
  | none => rw [hw] at hx; cases hx
  | some b =>
    rw [hw] at hx
    cases b with
    | false =>
      simp only [obind, Bool.false_eq_true, if_false, Option.some.injEq, Prod.mk.injEq] at hx ⊢
      exact ⟨hx.2.symm, fun _ => ⟨hx.1, trivial⟩⟩
    | true => exact hf s h x h1 hx

theorem Quiet.core {all : List Oper} {hint : List Nat} {hv : List Obj} {i : Nat} {o : Oper} (hf : Quiet P G run hint hv i o) {s : Slots} {h h1 : List Obj} {x : V} (hx : coreI P G run all hint hv i s h o = some (x, h1)) : h1 = h := by
  unfold coreI at *
  cases hw : wantedV all s o.guard with
  | none => rw [hw] at hx; cases hx
  | some b =>
    rw [hw] at hx
    cases b with
    | false =>
      simp only [obind, Bool.false_eq_true, if_false, Option.some.injEq, Prod.mk.injEq] at hx
      exact hx.2.symm
    | true => exact hf s h x h1 hx

/-- Two operations that do not mind each other. -/
structure Indep (P : Program) (G : Nat → Option (List D)) (run : Run) (all : List Oper) (hint : List Nat) (hv : List Obj) (i j : Nat) : Prop where
  two : ∃ x y, all[i]? = some x ∧ all[j]? = some y ∧ x.apart all.toArray y = true ∧
    (Free P G run hint hv i x ∨ Free P G run hint hv j y ∨ (Quiet P G run hint hv i x ∧ Quiet P G run hint hv j y))

theorem fits_indep {all : List Oper} {hint : List Nat} {hv : List Obj} {i j : Nat} (hf : fitsPair P hint all i j = true) : Indep P G run all hint hv i j := by
  unfold fitsPair at hf
  split at hf
  · rename_i x y hx hy
    simp only [Bool.and_eq_true] at hf
    refine ⟨x, y, hx, hy, hf.1, ?_⟩
    have h2 := hf.2
    split at h2
    · rename_i h; exact .inl (still_free h)
    · rename_i h _; exact .inr (.inl (still_free h))
    · rename_i c1 c2; exact .inr (.inr ⟨reads_quiet c1, reads_quiet c2⟩)
    · exact .inl (free_of_hint h2)
    · exact .inr (.inl (free_of_hint h2))
    · cases h2
  · cases hf

theorem swap {all : List Oper} {hint : List Nat} {hv : List Obj} {i j : Nat} (hf : Indep P G run all hint hv i j) {s s1 s2 : Slots} {h h1 h2 : List Obj}
    (hi : stepI P G run all hint hv i s h = some (s1, h1)) (hj : stepI P G run all hint hv j s1 h1 = some (s2, h2)) :
    ∃ s1' h1' s2', stepI P G run all hint hv j s h = some (s1', h1') ∧ stepI P G run all hint hv i s1' h1' = some (s2', h2) ∧ SEq s2 s2' := by
  obtain ⟨x, y, hx, hy, ha, hc⟩ := hf.two
  obtain ⟨a1, a2, a3⟩ := Oper.apart_spec ha
  rw [stepI_core hx] at hi
  rw [stepI_core hy] at hj
  cases cx : coreI P G run all hint hv i s h x with
  | none => rw [cx] at hi; cases hi
  | some p =>
    obtain ⟨u, g1⟩ := p
    rw [cx] at hi
    simp only [obind, Option.some.injEq, Prod.mk.injEq] at hi
    obtain ⟨rfl, rfl⟩ := hi
    rw [coreI_put a1] at hj
    cases cy : coreI P G run all hint hv j s g1 y with
    | none => rw [cy] at hj; cases hj
    | some q =>
      obtain ⟨v, g2⟩ := q
      rw [cy] at hj
      simp only [obind, Option.some.injEq, Prod.mk.injEq] at hj
      obtain ⟨rfl, rfl⟩ := hj
      have key : ∃ g, coreI P G run all hint hv j s h y = some (v, g) ∧ coreI P G run all hint hv i s g x = some (u, g2) := by
        rcases hc with hc | hc | ⟨hc, hd⟩
        · obtain ⟨rfl, hall⟩ := hc.core cx
          exact ⟨g2, cy, hall g2⟩
        · obtain ⟨rfl, hall⟩ := hc.core cy
          exact ⟨h, hall h, cx⟩
        · have := hc.core cx
          subst this
          have := hd.core cy
          subst this
          exact ⟨g2, cy, cx⟩
      obtain ⟨g, k1, k2⟩ := key
      refine ⟨putV s y.dst v, g, putV (putV s y.dst v) x.dst u, ?_, ?_, SEq.swap s u v a2⟩
      · rw [stepI_core hy, k1]; rfl
      · rw [stepI_core hx, coreI_put a3, k2]; rfl

/-- The operation j may come first. -/
theorem move_front {all : List Oper} {hint : List Nat} {hv : List Obj} {j : Nat} : ∀ (l1 l2 : List Nat), (∀ i ∈ l1, Indep P G run all hint hv i j) → ∀ {s s2 : Slots} {h h2 : List Obj},
    runL P G run all hint hv (l1 ++ j :: l2) s h = some (s2, h2) → ∃ s2', runL P G run all hint hv (j :: (l1 ++ l2)) s h = some (s2', h2) ∧ SEq s2 s2'
  | [], l2, _, s, s2, h, h2, hr => ⟨s2, hr, fun _ => rfl⟩
  | i :: l1, l2, hf, s, s2, h, h2, hr => by
    simp only [List.cons_append, runL] at hr
    cases hi : stepI P G run all hint hv i s h with
    | none => rw [hi] at hr; cases hr
    | some p =>
      obtain ⟨sa, ha⟩ := p
      rw [hi] at hr
      obtain ⟨sb, hb, e1⟩ := move_front l1 l2 (fun k hk => hf k (List.mem_cons_of_mem _ hk)) hr
      simp only [runL] at hb
      cases hj : stepI P G run all hint hv j sa ha with
      | none => rw [hj] at hb; cases hb
      | some q =>
        obtain ⟨sc, hc⟩ := q
        rw [hj] at hb
        obtain ⟨t1, g1, t2, k1, k2, e2⟩ := swap (hf i (List.mem_cons_self ..)) hi hj
        obtain ⟨sd, hd, e3⟩ := runL_congr _ e2 hb
        refine ⟨sd, ?_, fun t => (e1 t).trans (e3 t)⟩
        simp only [List.cons_append, runL, k1, obind, k2]
        exact hd

/-! ### who must wait for whom -/

theorem ancestors_spec : ∀ (ops : List Oper) (acc : List (List Nat)), ∃ l, ancestors ops acc = acc ++ l ∧ l.length = ops.length ∧
    ∀ (j : Nat) (o : Oper), ops[j]? = some o → l.getD j [] = o.after.toList.foldl (fun s e => if Region.binds .any e then addIds (addIds s [e.on]) ((acc ++ l.take j).getD e.on []) else s) []
  | [], acc => ⟨[], by simp [ancestors], rfl, fun j o hj => by simp at hj⟩
  | o :: r, acc => by
    obtain ⟨l, h1, h2, h3⟩ := ancestors_spec r (acc ++ [o.after.toList.foldl (fun s e => if Region.binds .any e then addIds (addIds s [e.on]) (acc.getD e.on []) else s) []])
    refine ⟨_ :: l, by rw [ancestors, h1, List.append_assoc]; rfl, by simp [h2], fun j o' hj => ?_⟩
    cases j with
    | zero => simp only [List.getElem?_cons_zero, Option.some.injEq] at hj; subst hj; simp
    | succ j =>
      simp only [List.getElem?_cons_succ] at hj
      have := h3 j o' hj
      simp only [List.getD_cons_succ, List.take_succ_cons]
      rw [this, List.append_assoc]
      rfl

theorem mem_addIds {i : Nat} : ∀ {l acc : List Nat}, i ∈ addIds acc l ↔ i ∈ acc ∨ i ∈ l
  | [], acc => by simp [addIds]
  | x :: l, acc => by
    simp only [addIds]
    split
    · rename_i hc
      rw [mem_addIds]
      simp only [List.mem_cons]
      have : x ∈ acc := by simpa using hc
      constructor
      · rintro (h | h); exact .inl h; exact .inr (.inr h)
      · rintro (h | rfl | h); exact .inl h; exact .inl this; exact .inr h
    · rw [mem_addIds]
      simp only [List.mem_append, List.mem_cons, List.not_mem_nil, or_false, or_assoc]

theorem mem_fold {after : List Edge} {f : Nat → List Nat} {i : Nat} : ∀ (s : List Nat), i ∈ after.foldl (fun s e => if Region.binds .any e then addIds (addIds s [e.on]) (f e.on) else s) s →
    i ∈ s ∨ ∃ e ∈ after, Region.binds .any e = true ∧ (i = e.on ∨ i ∈ f e.on) := by
  induction after with
  | nil => intro s hi; exact .inl hi
  | cons e after ih =>
    intro s hi
    simp only [List.foldl_cons] at hi
    rcases ih _ hi with h | ⟨e', he', h⟩
    · by_cases hb : Region.binds .any e = true
      · rw [if_pos hb] at h
        rcases mem_addIds.1 h with h | h
        · rcases mem_addIds.1 h with h | h
          · exact .inl h
          · exact .inr ⟨e, List.mem_cons_self .., hb, .inl (by simpa using h)⟩
        · exact .inr ⟨e, List.mem_cons_self .., hb, .inr h⟩
      · rw [if_neg hb] at h; exact .inl h
    · exact .inr ⟨e', List.mem_cons_of_mem _ he', h⟩

theorem fold_mem {after : List Edge} {f : Nat → List Nat} {e : Edge} (he : e ∈ after) (hb : Region.binds .any e = true) : ∀ (s : List Nat), e.on ∈ after.foldl (fun s e => if Region.binds .any e then addIds (addIds s [e.on]) (f e.on) else s) s := by
  have keep : ∀ (after : List Edge) (s : List Nat), e.on ∈ s → e.on ∈ after.foldl (fun s e => if Region.binds .any e then addIds (addIds s [e.on]) (f e.on) else s) s := by
    intro after
    induction after with
    | nil => intro s h; exact h
    | cons e' after ih =>
      intro s h
      simp only [List.foldl_cons]
      apply ih
      split
      · exact mem_addIds.2 (.inl (mem_addIds.2 (.inl h)))
      · exact h
  induction after with
  | nil => cases he
  | cons e' after ih =>
    intro s
    simp only [List.foldl_cons]
    rcases List.mem_cons.1 he with rfl | h
    · apply keep
      rw [if_pos hb]
      exact mem_addIds.2 (.inl (mem_addIds.2 (.inr (List.mem_singleton.2 rfl))))
    · exact ih h _

theorem anc_spec {ops : List Oper} {i j : Nat} {o : Oper} (hj : ops[j]? = some o) (hi : i ∈ (ancestors ops []).getD j []) :
    ∃ e ∈ o.after, Region.binds .any e = true ∧ (i = e.on ∨ (e.on < j ∧ i ∈ (ancestors ops []).getD e.on [])) := by
  obtain ⟨l, h1, h2, h3⟩ := ancestors_spec ops []
  rw [List.nil_append] at h1
  rw [h1] at hi ⊢
  rw [h3 j o hj] at hi
  rcases mem_fold (f := fun n => ([] ++ List.take j l).getD n []) _ hi with h | ⟨e, he, hb, h⟩
  · cases h
  · refine ⟨e, by simpa using he, hb, h.imp id fun h => ?_⟩
    rw [List.nil_append] at h
    by_cases hlt : e.on < j
    · refine ⟨hlt, ?_⟩
      simp only [List.getD_eq_getElem?_getD, List.getElem?_take, hlt, if_true] at h ⊢
      exact h
    · simp [List.getD_eq_getElem?_getD, List.getElem?_take, hlt] at h

theorem edge_anc {ops : List Oper} {j : Nat} {o : Oper} (hj : ops[j]? = some o) {e : Edge} (he : e ∈ o.after) (hb : Region.binds .any e = true) : e.on ∈ (ancestors ops []).getD j [] := by
  obtain ⟨l, h1, h2, h3⟩ := ancestors_spec ops []
  rw [List.nil_append] at h1
  rw [h1, h3 j o hj]
  exact fold_mem (f := fun n => ([] ++ List.take j l).getD n []) (Array.mem_toList_iff.2 he) hb _

theorem drawOk_edge {hint : List Nat} {ops : List Oper} (hd : drawOk P hint ops = true) {j : Nat} {o : Oper} (hj : ops[j]? = some o) {e : Edge} (he : e ∈ o.after) (hb : Region.binds .any e = true) : e.on < j := by
  unfold drawOk at hd
  simp only [List.all_eq_true, List.mem_range, Bool.and_eq_true, decide_eq_true_eq] at hd
  exact (hd j (List.getElem?_eq_some_iff.1 hj).1).1 _ (edge_anc hj he hb)

theorem drawOk_pair {hint : List Nat} {ops : List Oper} (hd : drawOk P hint ops = true) {i j : Nat} (hj : j < ops.length) (hij : i < j) :
    i ∈ (ancestors ops []).getD j [] ∨ fitsPair P hint ops i j = true := by
  unfold drawOk at hd
  simp only [List.all_eq_true, List.mem_range, Bool.and_eq_true, Bool.or_eq_true] at hd
  exact ((hd j hj).2 i hij).imp (by simp) id

/-- Once all that j must wait for is listed, and the listed have waited too, so are all its ancestors. -/
theorem anc_listed {ops : List Oper} {listed : Array Bool} (hcl : ∀ (k : Nat) (o : Oper), ops[k]? = some o → listed.getD k true = true → ∀ e ∈ o.after, Region.binds .any e = true → listed.getD e.on false = true)
    (hsz : listed.size = ops.length) : ∀ (j : Nat) (o : Oper), ops[j]? = some o → (∀ e ∈ o.after, Region.binds .any e = true → listed.getD e.on false = true) → ∀ i ∈ (ancestors ops []).getD j [], listed.getD i false = true := by
  intro j
  induction j using Nat.strongRecOn with
  | _ j ih =>
    intro o hj hall i hi
    obtain ⟨e, he, hb, h⟩ := anc_spec hj hi
    rcases h with rfl | ⟨hlt, h⟩
    · exact hall e he hb
    · have hjl : j < ops.length := (List.getElem?_eq_some_iff.1 hj).1
      have hel : e.on < ops.length := by omega
      have ho : ops[e.on]? = some ops[e.on] := List.getElem?_eq_getElem hel
      refine ih e.on hlt _ ho (hcl e.on _ ho ?_) i h
      have := hall e he hb
      simp only [Array.getD_eq_getD_getElem?] at this ⊢
      rw [Array.getElem?_eq_getElem (by omega)] at this ⊢
      simpa using this

end

section
variable {X : Nat → Nat → Prop} {P : Program} {G : Nat → Option (List D)}

theorem Stp.draw {ρ : Places} {h : List Obj} {w : World} (H : HRel X ρ h w) (n : Nat) : Stp X ρ h w ρ h { w with drawn := n } := by
  have f : Fr X ρ h w ρ h { w with drawn := n } := ⟨rfl, rfl, rfl, Nat.le_refl _, fun _ _ hb => ⟨rfl, hb⟩, fun _ _ _ hm hc => ⟨hc, hm⟩⟩
  refine ⟨⟨H.len, fun id o ho => ?_, H.xlt, H.xown, H.inj⟩, f, Evo.refl _ _ _⟩
  obtain ⟨r, hr, hrel⟩ := H.obj id o ho
  exact ⟨r, hr, hrel.kept f (Evo.refl _ _ _) fun _ _ _ => rfl⟩

theorem SRel.seq {ρ : Places} {h : List Obj} {w : World} {tmps : Array Value} {s s' : Slots} (hs : SRel X ρ h w tmps s) (e : SEq s s') : SRel X ρ h w tmps s' := fun t => e t ▸ hs t

theorem wpAny_runL {run : Run} {nt : Nat} {all : List Oper} {hint : List Nat} {hv : List Obj} {Q : Exit → Act → World → Prop} (hrun : RunOk P G run) (hhas : RunHas P run) (hdst : ∀ o ∈ all, ∀ d, o.dst = some d → d < nt)
    (hd : drawOk P hint all = true) {h' : List Obj} :
    ∀ (s' : Slots) (rem : List Nat) (listed : Array Bool) (ρ : Places) (s : Slots) (h : List Obj) (a : Act) (w : World), rem.Pairwise (· < ·) → (∀ j, j ∈ rem ↔ j < all.length ∧ listed.getD j true = false) → listed.size = all.length →
      (∀ (k : Nat) (o : Oper), all[k]? = some o → listed.getD k true = true → ∀ e ∈ o.after, Region.binds .any e = true → listed.getD e.on false = true) →
      runL P G run all hint hv rem s h = some (s', h') → St X G nt ρ h w a s → (hint ≠ [] → Seen hv h) →
      (∀ ρ' a' w', Stp X ρ h w ρ' h' w' → St X G nt ρ' h' w' a' s' → a'.defers = a.defers → Q .normal a' w') → ∀ fuel, rem.length = fuel → wpAny P .any all.toArray Q fuel listed a w := by
  intro s' rem listed ρ s h a w hp hm hsz hcl hr S hseen hq fuel
  induction fuel generalizing s' rem listed ρ s h a w with
  | zero =>
    intro hl
    have : rem = [] := List.length_eq_zero_iff.1 hl
    subst this
    simp only [runL, Option.some.injEq, Prod.mk.injEq] at hr; obtain ⟨rfl, rfl⟩ := hr
    refine ⟨?_, hq ρ a w (Stp.refl S.rel) S rfl⟩
    apply List.eq_nil_iff_forall_not_mem.2
    intro j hj
    obtain ⟨h0, o, ho, -⟩ := mem_ready.1 hj
    have hjl : j < all.length := by have := (Array.getElem?_eq_some_iff.1 ho).1; simpa using this
    have := (hm j).2 ⟨hjl, h0⟩
    cases this
  | succ fuel ih =>
    intro hl
    constructor
    · intro hnone
      exfalso
      cases rem with
      | nil => cases hl
      | cons j r =>
        obtain ⟨hjl, hjn⟩ := (hm j).1 (List.mem_cons_self ..)
        have ho : all[j]? = some all[j] := List.getElem?_eq_getElem hjl
        have : j ∈ Region.ready .any all.toArray listed := by
          refine mem_ready.2 ⟨hjn, all[j], by simp [ho], fun e he hb => ?_⟩
          have hlt := drawOk_edge hd ho he hb
          by_cases hx : listed.getD e.on true = false
          · have hmem := (hm e.on).2 ⟨by omega, hx⟩
            rcases List.mem_cons.1 hmem with h1 | h1
            · omega
            · have := (List.pairwise_cons.1 hp).1 _ h1
              omega
          · simp only [Array.getD_eq_getD_getElem?] at hx ⊢
            rw [Array.getElem?_eq_getElem (by omega)] at hx ⊢
            simpa using hx
        rw [hnone] at this
        cases this
    · intro j hj
      obtain ⟨h0, o, ho, hall⟩ := mem_ready.1 hj
      have ho' : all[j]? = some o := by simpa using ho
      have hjl : j < all.length := (List.getElem?_eq_some_iff.1 ho').1
      have hjm : j ∈ rem := (hm j).2 ⟨hjl, h0⟩
      obtain ⟨l1, l2, rfl⟩ := List.append_of_mem hjm
      have hp' := List.pairwise_append.1 hp
      have hp2 := List.pairwise_cons.1 hp'.2.1
      have hind : ∀ i ∈ l1, Indep P G run all hint hv i j := fun i hi => by
        have hij : i < j := hp'.2.2 i hi j (List.mem_cons_self ..)
        rcases drawOk_pair hd hjl hij with h1 | h1
        · exfalso
          have h2 := anc_listed hcl hsz j o ho' hall i h1
          have h3 := ((hm i).1 (List.mem_append_left _ hi)).2
          simp only [Array.getD_eq_getD_getElem?] at h2 h3
          rw [Array.getElem?_eq_getElem (by omega)] at h2 h3
          simp only [Option.getD_some] at h2 h3
          rw [h2] at h3
          cases h3
        · exact fits_indep h1
      obtain ⟨s2, hr2, he⟩ := move_front l1 l2 hind hr
      simp only [runL] at hr2
      cases hs : stepI P G run all hint hv j s h with
      | none => rw [hs] at hr2; cases hr2
      | some p =>
        obtain ⟨s1, h1⟩ := p
        rw [hs] at hr2
        refine stepI_sound hrun hhas hdst hs S hseen fun ρ1 a1 w1 st S1 hd1 => ?_
        have hne : ∀ i ∈ l1 ++ l2, i ≠ j := fun i hi e => by
          subst e
          rcases List.mem_append.1 hi with h | h
          · exact Nat.lt_irrefl _ (hp'.2.2 i h i (List.mem_cons_self ..))
          · exact Nat.lt_irrefl _ (hp2.1 i h)
        have hset : ∀ i d, (listed.setIfInBounds j true).getD i d = if i = j then true else listed.getD i d := fun i d => by
          by_cases e : i = j
          · subst e
            simp [Array.getD_eq_getD_getElem?, hsz, hjl]
          · rw [getD_set_ne d (Ne.symm e), if_neg e]
        refine ih s2 (l1 ++ l2) (listed.setIfInBounds j true) ρ1 s1 h1 a1 w1 ?_ ?_ (by simpa using hsz) ?_ hr2 S1 (stepI_seen hs hseen) ?_ ?_
        · exact List.pairwise_append.2 ⟨hp'.1, hp2.2, fun x hx y hy => hp'.2.2 x hx y (List.mem_cons_of_mem _ hy)⟩
        · intro i
          rw [hset]
          constructor
          · intro hi
            rw [if_neg (hne i hi)]
            exact (hm i).1 (by
              rcases List.mem_append.1 hi with hi | hi
              · exact List.mem_append_left _ hi
              · exact List.mem_append_right _ (List.mem_cons_of_mem _ hi))
          · rintro ⟨hil, hi⟩
            split at hi
            · cases hi
            · rename_i hij
              have := (hm i).2 ⟨hil, hi⟩
              rcases List.mem_append.1 this with h | h
              · exact List.mem_append_left _ h
              · rcases List.mem_cons.1 h with h | h
                · exact absurd h hij
                · exact List.mem_append_right _ h
        · intro k o' hk hkl e hee hb
          apply getD_set_true
          rw [hset] at hkl
          split at hkl
          · rename_i hkj
            subst hkj
            rw [ho'] at hk
            cases hk
            exact hall e hee hb
          · exact hcl k o' hk hkl e hee hb
        · intro ρ2 a2 w2 st2 S2 hd2
          exact hq ρ2 a2 w2 (st.trans S.rel st2) ⟨S2.rel, S2.glob, S2.slots.seq fun t => (he t).symm, S2.size⟩ (hd2.trans hd1)
        · simp only [List.length_append, List.length_cons] at hl ⊢; omega

theorem region_sound {run : Run} {nt : Nat} {ops : Array Oper} {hint : List Nat} {hv : List Obj} {id : Nat} {draw : Bool} {Q : Exit → Act → World → Prop} (hm : P.follows .mixedOrders = true) (hrun : RunOk P G run) (hhas : RunHas P run)
    (hdst : ∀ o ∈ ops.toList, ∀ d, o.dst = some d → d < nt) (hd : draw = true → drawOk P hint ops.toList = true) {ρ : Places} {s s' : Slots} {h h' : List Obj} {a : Act} {w : World}
    (hr : opsV P G run ops.toList (if draw then hint else []) hv 0 ops.toList s h = some (s', h')) (S : St X G nt ρ h w a s) (hseen : Seen hv h)
    (hq : ∀ ρ' a' w', Stp X ρ h w ρ' h' w' → St X G nt ρ' h' w' a' s' → a'.defers = a.defers → Q .normal a' w') : (Code.region id ops draw).wp P Q a w := by
  rw [opsV_runL P G run _ _ _ _ 0 s h (fun j => by rw [Nat.zero_add])] at hr
  have hops : ops.toList.toArray = ops := Array.toArray_toList
  cases draw with
  | false =>
    have := runL_sound hrun hhas hdst _ ρ s h a w s' h' hr S (fun _ => hseen) hq
    rw [hops, ← List.range_eq_range', Array.length_toList] at this
    exact wp_region this
  | true =>
    refine wp_region_any hm ?_
    have hs := Stp.draw S.rel (w.drawn + 1)
    have hrep : ∀ j, j < ops.size → (Array.replicate ops.size false).getD j true = false := fun j hj => by simp [Array.getD_eq_getD_getElem?, hj]
    have := wpAny_runL hrun hhas hdst (hd rfl) s' _ (Array.replicate ops.size false) ρ s h a { w with drawn := w.drawn + 1 } (List.pairwise_lt_range' ..) (fun j => ⟨fun h => ⟨by simpa using h, hrep j (by simpa using h)⟩, fun h => by simpa using h.1⟩) (by simp) (fun k o hk hl => by rw [hrep k (by simpa using (List.getElem?_eq_some_iff.1 hk).1)] at hl; cases hl) hr
      ⟨hs.rel, S.glob.mono hs.fr, S.slots.mono hs, S.size⟩ (fun _ => hseen) (fun ρ' a' w' st => hq ρ' a' w' (hs.trans S.rel st)) ops.size (by simp)
    rw [hops] at this
    exact this
end
end Go.Am
