/- A run that is as deep as it must be: what a function does, told of the functions that it calls. -/
import Derived.Test.YtekemfffaedmhaaAmTop
set_option linter.all false
namespace Go.Am

/-- From some number on A is x, if x is anything. -/
def Ev {α : Type} (A : Nat → Option α) (x : Option α) : Prop := ∀ r, x = some r → ∃ n, ∀ m, n ≤ m → A m = some r

theorem Ev.const {α : Type} (x : Option α) : Ev (fun _ => x) x := fun _ hr => ⟨0, fun _ _ => hr⟩

theorem Ev.obind {α β : Type} {A : Nat → Option α} {x : Option α} {B : Nat → α → Option β} {b : α → Option β} (ha : Ev A x) (hb : ∀ a, Ev (fun m => B m a) (b a)) :
    Ev (fun m => Am.obind (A m) (B m)) (Am.obind x b) := fun r hr => by
  cases x with
  | none => cases hr
  | some a =>
    obtain ⟨n1, h1⟩ := ha a rfl
    obtain ⟨n2, h2⟩ := hb a r hr
    exact ⟨max n1 n2, fun m hm => by simp only [h1 m (by omega)]; exact h2 m (by omega)⟩

theorem Ev.onNormal {A : Nat → Res} {x : Res} {B : Nat → Slots → List Obj → Res} {b : Slots → List Obj → Res} (ha : Ev A x) (hb : ∀ s h, Ev (fun m => B m s h) (b s h)) :
    Ev (fun m => Am.onNormal (A m) (B m)) (Am.onNormal x b) := fun r hr => by
  cases x with
  | none => cases hr
  | some a =>
    obtain ⟨o, s, h⟩ := a
    obtain ⟨n1, h1⟩ := ha _ rfl
    cases o with
    | normal =>
      obtain ⟨n2, h2⟩ := hb s h r hr
      exact ⟨max n1 n2, fun m hm => by simp only [h1 m (by omega), Am.onNormal]; exact h2 m (by omega)⟩
    | exit i => exact ⟨n1, fun m hm => by simp only [h1 m hm]; exact hr⟩
    | ret => exact ⟨n1, fun m hm => by simp only [h1 m hm]; exact hr⟩

theorem Ev.leave {A : Nat → Res} {x : Res} (id : Nat) (ha : Ev A x) : Ev (fun m => Am.leave id (A m)) (Am.leave id x) := fun r hr => by
  cases x with
  | none => cases hr
  | some a =>
    obtain ⟨n1, h1⟩ := ha _ rfl
    exact ⟨n1, fun m hm => by simp only [h1 m hm]; exact hr⟩

theorem Ev.branch {A B : Nat → Res} {x y : Res} (c : V) (ha : Ev A x) (hb : Ev B y) : Ev (fun m => Am.branch c (A m) (B m)) (Am.branch c x y) := by
  unfold Am.branch
  split
  · rename_i t
    cases t with
    | true => exact ha
    | false => exact hb
  · exact Ev.const none

theorem Ev.iter {A : Nat → Slots → List Obj → Res} {x : Slots → List Obj → Res} (ha : ∀ s h, Ev (fun m => A m s h) (x s h)) : ∀ (k : Nat) (s : Slots) (h : List Obj), Ev (fun m => Am.iter (A m) k s h) (Am.iter x k s h)
  | 0, _, _ => Ev.const none
  | k + 1, s, h => by
    simp only [Am.iter]
    exact Ev.onNormal (ha s h) fun s h => Ev.iter ha k s h

theorem Ev.loops {A : Nat → Slots → List Obj → Res} {x : Slots → List Obj → Res} (ha : ∀ s h, Ev (fun m => A m s h) (x s h)) (s : Slots) (h : List Obj) : Ev (fun m => Am.loops (A m) s h) (Am.loops x s h) := fun r hr => by
  obtain ⟨k, hk⟩ := loops_some.1 hr
  obtain ⟨n, hn⟩ := Ev.iter ha k s h r hk
  exact ⟨n, fun m hm => loops_some.2 ⟨k, hn m hm⟩⟩

/-- From some number on the runs R are R'. -/
def EvRun (R : Nat → Run) (R' : Run) : Prop := ∀ f args h, Ev (fun m => R m f args h) (R' f args h)

section
variable {P : Program} {G : Nat → Option (List D)} {K : Keeps} {S : Hints} {R : Nat → Run} {R' : Run}

theorem Ev.callWith (hR : EvRun R R') (f : FuncId) (args : List V) (h : List Obj) : Ev (fun m => Am.callWith (R m) f args h) (Am.callWith R' f args h) := by
  unfold Am.callWith
  cases argVs h args with
  | none => exact Ev.const none
  | some p =>
    obtain ⟨as, h1⟩ := p
    simp only
    cases as.mapM (V.ren (place (reach h1 (addIds [] (as.flatMap V.ids))))) with
    | none => exact Ev.const none
    | some as2 =>
      cases takeObjs h1 (place (reach h1 (addIds [] (as.flatMap V.ids)))) (reach h1 (addIds [] (as.flatMap V.ids))) with
      | none => exact Ev.const none
      | some hin =>
        simp only
        intro r hr
        cases hx : R' f as2 hin with
        | none => rw [hx] at hr; cases hr
        | some q =>
          rw [hx] at hr
          obtain ⟨n, hn⟩ := hR f as2 hin q hx
          exact ⟨n, fun m hm => by simp only [hn m hm]; exact hr⟩

theorem Ev.calleeV (hR : EvRun R R') (s : Slots) (h : List Obj) (f : V) (args : List V) : Ev (fun m => Am.calleeV s h (R m) f args) (Am.calleeV s h R' f args) := by
  unfold Am.calleeV
  split
  · exact Ev.callWith hR _ _ _
  · exact Ev.callWith hR _ _ _
  · exact Ev.const none

theorem Ev.opV (hR : EvRun R R') (s : Slots) (h : List Obj) (o : Oper) : Ev (fun m => Am.opV P G (R m) s h o) (Am.opV P G R' s h o) := by
  unfold Am.opV
  cases o.op with
  | call c =>
    simp only
    cases c.callee with
    | builtin b => exact Ev.const _
    | invoke _ _ => exact Ev.const _
    | value f => exact Ev.calleeV hR _ _ _ _
  | makeFunc fn first cap => cases fn <;> exact Ev.const _
  | _ => exact Ev.const _

theorem Ev.opsV (hR : EvRun R R') (all : List Oper) (hint : List Nat) (hv : List Obj) : ∀ (ops : List Oper) (i : Nat) (s : Slots) (h : List Obj), Ev (fun m => Am.opsV P G (R m) all hint hv i ops s h) (Am.opsV P G R' all hint hv i ops s h)
  | [], _, _, _ => Ev.const _
  | o :: ops, i, s, h => by
    simp only [Am.opsV]
    refine Ev.obind (Ev.const _) fun w => ?_
    cases w with
    | false => exact Ev.opsV hR all hint hv ops _ _ _
    | true =>
      simp only [if_true]
      refine Ev.obind ?_ fun p => Ev.opsV hR all hint hv ops _ _ _
      cases hint.contains i with
      | true => exact Ev.const _
      | false =>
        simp only [Bool.false_eq_true, if_false]
        split
        · exact Ev.opV hR s h o
        · exact Ev.const _

theorem Ev.codeV (hR : EvRun R R') (F : FuncId) (k : Nat) : ∀ (c : Code) (b : Nat) (s : Slots) (h : List Obj), Ev (fun m => Am.codeV P G K S (R m) Am.loops F k b c s h) (Am.codeV P G K S R' Am.loops F k b c s h) := by
  intro c
  induction c with
  | skip => intro b s h; exact Ev.const _
  | region id ops draw =>
    intro b s h
    simp only [Am.codeV, regionV]
    exact Ev.obind (Ev.const _) fun _ => Ev.obind (Ev.opsV hR _ _ _ _ _ _ _) fun _ => Ev.const _
  | seq x y ihx ihy => intro b s h; simp only [Am.codeV]; exact Ev.onNormal (ihx b s h) fun s h => ihy b s h
  | cond c x y ihx ihy => intro b s h; simp only [Am.codeV]; exact Ev.branch _ (ihx b s h) (ihy b s h)
  | block id c ih => intro b s h; simp only [Am.codeV]; exact Ev.leave id (ih id s h)
  | loop c ih =>
    intro b s h
    simp only [Am.codeV]
    split
    · exact Ev.loops (fun s h => Ev.obind (Ev.const _) fun (p : Slots × List Obj) => ih b p.1 p.2) s h
    · exact Ev.loops (fun s h => ih b s h) s h
  | _ => intro b s h; simp only [Am.codeV]; exact Ev.const _

theorem Ev.bodyV (hR : EvRun R R') (f : FuncId) (args : List V) (h : List Obj) : Ev (fun m => Am.bodyV P G K S (R m) Am.loops f args h) (Am.bodyV P G K S R' Am.loops f args h) := by
  unfold Am.bodyV
  cases P.funcs[f]? with
  | none => exact Ev.const _
  | some fn =>
    simp only
    cases fn.body with
    | none => exact Ev.const _
    | some c =>
      simp only
      split
      · intro r hr
        cases hx : Am.codeV P G K S R' Am.loops f h.length 0 c (startSlots 0 args) h with
        | none => rw [hx] at hr; cases hr
        | some q =>
          rw [hx] at hr
          obtain ⟨n, hn⟩ := Ev.codeV hR f h.length c 0 _ _ q hx
          exact ⟨n, fun m hm => by
          have := hn m hm
          simp only at this
          simp only [this]
          exact hr⟩
      · exact Ev.const _

variable (P G K S)

noncomputable def runN : Nat → Run
  | 0 => fun _ _ _ => none
  | n + 1 => Am.bodyV P G K S (runN n) Am.loops

open Classical in
noncomputable def Runs : Run := fun f args h => if e : ∃ n r, ∀ m, n ≤ m → runN P G K S m f args h = some r then some (Classical.choose (Classical.choose_spec e)) else none

variable {P G K S}

theorem Runs_some {f : FuncId} {args : List V} {h : List Obj} {r : List V × List Obj} : Runs P G K S f args h = some r ↔ ∃ n, ∀ m, n ≤ m → runN P G K S m f args h = some r := by
  unfold Runs
  constructor
  · intro hr
    split at hr
    · rename_i e
      simp only [Option.some.injEq] at hr
      subst hr
      exact ⟨_, Classical.choose_spec (Classical.choose_spec e)⟩
    · cases hr
  · rintro ⟨n, hn⟩
    have e : ∃ n r, ∀ m, n ≤ m → runN P G K S m f args h = some r := ⟨n, r, hn⟩
    rw [dif_pos e]
    have h2 := Classical.choose_spec (Classical.choose_spec e)
    have h3 := hn (max n (Classical.choose e)) (by omega)
    have h4 := h2 (max n (Classical.choose e)) (by omega)
    rw [h3] at h4
    simpa using h4.symm

theorem Runs_ev : EvRun (runN P G K S) (Runs P G K S) := fun _ _ _ _ hr => Runs_some.1 hr

/-- WHAT A FUNCTION DOES, of what those do that it calls. -/
theorem Runs_of {f : FuncId} {args : List V} {h : List Obj} {r : List V × List Obj} (hr : bodyV P G K S (Runs P G K S) loops f args h = some r) : Runs P G K S f args h = some r := by
  obtain ⟨n, hn⟩ := Ev.bodyV Runs_ev f args h r hr
  refine Runs_some.2 ⟨n + 1, fun m hm => ?_⟩
  obtain ⟨k, rfl⟩ : ∃ k, m = k + 1 := ⟨m - 1, by omega⟩
  exact hn k (by omega)

theorem runN_ok (hm : P.follows .mixedOrders = true) : ∀ n, RunOk P G (runN P G K S n) ∧ RunHas P (runN P G K S n)
  | 0 => ⟨fun _ _ _ _ _ hr => by simp [runN] at hr, fun _ _ _ _ hr => by simp [runN] at hr⟩
  | n + 1 => bodyV_ok hm (runN_ok hm n).1 (runN_ok hm n).2 fun _ _ _ _ _ hc => loops_does hc

theorem Runs_ok (hm : P.follows .mixedOrders = true) : RunOk P G (Runs P G K S) := fun f args h rets h' hr => by
  obtain ⟨n, hn⟩ := Runs_some.1 hr
  exact (runN_ok hm n).1 f args h rets h' (hn n (Nat.le_refl _))

/-- A loop with its head. -/
noncomputable def hloop (k : Nat) (keep : List (Nat × Nat)) (b : Slots → List Obj → Res) (s : Slots) (h : List Obj) : Res := loops (fun s h => obind (norm k keep s h) fun p => b p.1 p.2) s h

theorem hloop_eq (k : Nat) (keep : List (Nat × Nat)) (b : Slots → List Obj → Res) (s : Slots) (h : List Obj) :
    hloop k keep b s h = obind (norm k keep s h) fun p => onNormal (b p.1 p.2) (hloop k keep b) := by
  show loops _ s h = _
  rw [loops_eq]
  cases norm k keep s h <;> rfl

theorem codeV_loop {run : Run} {F : FuncId} {k b : Nat} {c : Code} {s : Slots} {h : List Obj} {keep : List (Nat × Nat)} (hk : K F b = some keep) :
    codeV P G K S run loops F k b (.loop c) s h = hloop k keep (codeV P G K S run loops F k b c) s h := by
  simp only [codeV, hk]
  rfl

end
end Go.Am
