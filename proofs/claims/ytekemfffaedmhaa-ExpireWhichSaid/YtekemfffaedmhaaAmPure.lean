/- What is handed on as data: it stands still from there on. Operands. -/
import Derived.Test.YtekemfffaedmhaaAmStep
set_option linter.all false
namespace Go.Am
section
variable {X : Nat → Nat → Prop} {ρ ρ' ρ'' : Places} {h h' h'' : List Obj} {w w' w'' : World}

theorem Evo.le (H : HRel X ρ h w) (he : Evo h.length ρ h ρ' h') : h.length ≤ h'.length := by
  rcases Nat.eq_zero_or_pos h.length with e | e
  · omega
  · have hlt : h.length - 1 < h.length := by omega
    have hlt' : h.length - 1 < ρ.length := by rw [H.len]; exact hlt
    obtain ⟨o', r', h1, _⟩ := he (h.length - 1) (h[h.length - 1]) (ρ[h.length - 1]) hlt (by simp [hlt]) (by simp [hlt'])
    have := lt_of_getElem? h1
    omega

/-- What a step leaves: the objects' relation, and what was there. -/
structure Stp (X : Nat → Nat → Prop) (ρ : Places) (h : List Obj) (w : World) (ρ' : Places) (h' : List Obj) (w' : World) : Prop where
  rel : HRel X ρ' h' w'
  fr : Fr X ρ h w ρ' h' w'
  evo : Evo h.length ρ h ρ' h'

theorem Stp.refl (H : HRel X ρ h w) : Stp X ρ h w ρ h w := ⟨H, Fr.refl _ _ _, Evo.refl _ _ _⟩

theorem Stp.trans (H : HRel X ρ h w) (a : Stp X ρ h w ρ' h' w') (b : Stp X ρ' h' w' ρ'' h'' w'') : Stp X ρ h w ρ'' h'' w'' :=
  ⟨b.rel, a.fr.trans b.fr, a.evo.trans (b.evo.mono (a.evo.le H))⟩

theorem Stp.v1 (a : Stp X ρ h w ρ' h' w') {v : Value} {x : V} (hv : V1 X ρ h w v x) : V1 X ρ' h' w' v x := hv.mono a.fr a.evo
theorem Stp.v2 (a : Stp X ρ h w ρ' h' w') {v : Value} {x : V} (hv : V2 X ρ h w v x) : V2 X ρ' h' w' v x := hv.mono a.fr a.evo
theorem Stp.vrel (a : Stp X ρ h w ρ' h' w') {v : Value} {x : V} (hv : VRel X ρ h w v x) : VRel X ρ' h' w' v x := hv.mono a.fr a.evo
theorem Stp.rep (a : Stp X ρ h w ρ' h' w') {v : Value} {x : D} (hv : Rep (Mut X ρ h) w v x) : Rep (Mut X ρ' h') w' v x := hv.mono a.fr.imm

theorem pure1_sound {v : Value} {V : V} {x : D} (hp : pure1 h V = some (x, h')) (H : HRel X ρ h w) (hv : V1 X ρ h w v V) : Stp X ρ h w ρ h' w ∧ Rep (Mut X ρ h') w v x := by
  cases V with
  | d y => simp only [pure1, Option.some.injEq, Prod.mk.injEq] at hp; obtain ⟨rfl, rfl⟩ := hp; exact ⟨Stp.refl H, hv⟩
  | nilS =>
    simp only [pure1, Option.some.injEq, Prod.mk.injEq] at hp; obtain ⟨rfl, rfl⟩ := hp
    refine ⟨Stp.refl H, ?_⟩
    simp only [V1] at hv
    subst hv
    exact .nil none 0
  | arr id n =>
    simp only [pure1] at hp
    split at hp
    · rename_i sz xs wm ho
      split at hp
      · rename_i hn
        simp only [Option.some.injEq, Prod.mk.injEq] at hp; obtain ⟨rfl, rfl⟩ := hp
        subst hn
        obtain ⟨h1, h2, h3⟩ := step_freeze H ho
        refine ⟨⟨h1, h2, h3⟩, ?_⟩
        exact arr_reads h1 (id := id) (sz := sz) (wm := xs.length) (by rw [List.getElem?_set_self (lt_of_getElem? ho)]) rfl (hv.mono h2 h3)
      · cases hp
    · cases hp
  | _ => simp [pure1] at hp

theorem pure1_cell {V : V} {x : D} (hp : pure1 h V = some (x, h')) (hc : V.cellOk = true) : x.isCell = true := by
  cases V with
  | d y =>
    simp only [pure1, Option.some.injEq, Prod.mk.injEq] at hp; obtain ⟨rfl, _⟩ := hp
    cases y <;> simp_all [V.cellOk, D.isCell]
  | nilS => simp only [pure1, Option.some.injEq, Prod.mk.injEq] at hp; obtain ⟨rfl, _⟩ := hp; rfl
  | arr id n =>
    simp only [pure1] at hp
    split at hp
    · split at hp
      · simp only [Option.some.injEq, Prod.mk.injEq] at hp; obtain ⟨rfl, _⟩ := hp; rfl
      · cases hp
    · cases hp
  | _ => simp [pure1] at hp

theorem pureList_sound : ∀ (cs : List V) (h : List Obj) (us : Nat → Value) (xs : List D) (h' : List Obj), pureList h cs = some (xs, h') → HRel X ρ h w →
    (∀ (j : Nat) (c : V), cs[j]? = some c → V1 X ρ h w (us j) c) →
    Stp X ρ h w ρ h' w ∧ xs.length = cs.length ∧ (∀ (j : Nat) (x : D), xs[j]? = some x → Rep (Mut X ρ h') w (us j) x) ∧ ((∀ c ∈ cs, c.cellOk = true) → ∀ x ∈ xs, x.isCell = true)
  | [], h, us, xs, h', hp, H, _ => by
    simp only [pureList, Option.some.injEq, Prod.mk.injEq] at hp; obtain ⟨rfl, rfl⟩ := hp
    exact ⟨Stp.refl H, rfl, fun j x hj => by simp at hj, fun _ x hx => by simp at hx⟩
  | c :: cs, h, us, xs, h', hp, H, hc => by
    simp only [pureList] at hp
    split at hp
    · rename_i x h1 hx
      split at hp
      · rename_i ys h2 hy
        simp only [Option.some.injEq, Prod.mk.injEq] at hp; obtain ⟨rfl, rfl⟩ := hp
        obtain ⟨s1, r1⟩ := pure1_sound hx H (hc 0 c (by simp))
        obtain ⟨s2, e2, r2, k2⟩ := pureList_sound cs h1 (fun j => us (j + 1)) ys _ hy s1.rel fun j c hj => s1.v1 (hc (j + 1) c (by simpa using hj))
        refine ⟨s1.trans H s2, by simp [e2], fun j x hj => ?_, fun hk x hx' => ?_⟩
        · cases j with
          | zero => simp at hj; subst hj; exact s2.rep r1
          | succ j => exact r2 j x (by simpa using hj)
        · rcases List.mem_cons.1 hx' with e | e
          · subst e; exact pure1_cell hx (hk c (by simp))
          · exact k2 (fun c hc => hk c (by simp [hc])) x e
      · cases hp
    · cases hp

theorem pureV_sound {v : Value} {V : V} {x : D} (hp : pureV h V = some (x, h')) (H : HRel X ρ h w) (hv : VRel X ρ h w v V) : Stp X ρ h w ρ h' w ∧ Rep (Mut X ρ h') w v x := by
  cases V with
  | agg cs =>
    simp only [pureV, Option.map_eq_some_iff, Prod.exists] at hp
    obtain ⟨xs, h1, hp, e⟩ := hp
    simp only [Prod.mk.injEq] at e; obtain ⟨rfl, rfl⟩ := e
    obtain ⟨us, rfl, h2, h3⟩ := hv
    obtain ⟨s, e1, r1, k1⟩ := pureList_sound (ρ := ρ) (w := w) cs h (fun j => us.getD j undef) xs _ hp H fun j c hj => by
      obtain ⟨u, h4, h5, _⟩ := h3 j c hj
      simpa [Array.getD_eq_getD_getElem?, h4] using h5
    refine ⟨s, .agg us xs (fun j => us.getD j undef) (by omega) (fun j c hj => ⟨?_, ?_⟩) r1⟩
    · have := lt_of_getElem? hj
      have hlt : j < us.size := by omega
      simp [Array.getD_eq_getD_getElem?, hlt]
    · refine k1 (fun c hc => ?_) c (List.mem_of_getElem? hj)
      obtain ⟨i, hi⟩ := List.getElem?_of_mem hc
      exact (h3 i c hi).choose_spec.2.2
  | d y => exact pure1_sound (V := .d y) hp H hv
  | nilS => exact pure1_sound (V := .nilS) hp H hv
  | arr a b => exact pure1_sound (V := .arr a b) hp H hv
  | ptr a b => simp [pureV, pure1] at hp
  | eptr a b c d => simp [pureV, pure1] at hp
  | ro a => simp [pureV, pure1] at hp
  | mp a => simp [pureV, pure1] at hp
  | clo a b => simp [pureV, pure1] at hp
  | tup a => simp [pureV, pure1] at hp
  | dead => simp [pureV, pure1] at hp

theorem pureVs_sound : ∀ (cs : List V) (h : List Obj) (us : Nat → Value) (xs : List D) (h' : List Obj), pureVs h cs = some (xs, h') → HRel X ρ h w →
    (∀ (j : Nat) (c : V), cs[j]? = some c → VRel X ρ h w (us j) c) →
    Stp X ρ h w ρ h' w ∧ xs.length = cs.length ∧ ∀ (j : Nat) (x : D), xs[j]? = some x → Rep (Mut X ρ h') w (us j) x
  | [], h, us, xs, h', hp, H, _ => by
    simp only [pureVs, Option.some.injEq, Prod.mk.injEq] at hp; obtain ⟨rfl, rfl⟩ := hp
    exact ⟨Stp.refl H, rfl, fun j x hj => by simp at hj⟩
  | c :: cs, h, us, xs, h', hp, H, hc => by
    simp only [pureVs] at hp
    split at hp
    · rename_i x h1 hx
      split at hp
      · rename_i ys h2 hy
        simp only [Option.some.injEq, Prod.mk.injEq] at hp; obtain ⟨rfl, rfl⟩ := hp
        obtain ⟨s1, r1⟩ := pureV_sound hx H (hc 0 c (by simp))
        obtain ⟨s2, e2, r2⟩ := pureVs_sound cs h1 (fun j => us (j + 1)) ys _ hy s1.rel fun j c hj => s1.vrel (hc (j + 1) c (by simpa using hj))
        refine ⟨s1.trans H s2, by simp [e2], fun j x hj => ?_⟩
        cases j with
        | zero => simp at hj; subst hj; exact s2.rep r1
        | succ j => exact r2 j x (by simpa using hj)
      · cases hp
    · cases hp

/-! ### lists of cells -/

/-- us stand for cs, cell by cell. -/
def CellsRel (X : Nat → Nat → Prop) (ρ : Places) (h : List Obj) (w : World) (us : List Value) (cs : List V) : Prop :=
  us.length = cs.length ∧ ∀ (j : Nat) (c : V), cs[j]? = some c → ∃ u, us[j]? = some u ∧ V1 X ρ h w u c ∧ c.cellOk = true

theorem V1.one {v : Value} {c : V} (hv : V1 X ρ h w v c) (hc : c.cellOk = true) : v.oneCell' = true := by
  cases c with
  | d x =>
    refine Rep.one hv ?_
    cases x <;> simp_all [V.cellOk, D.isCell]
  | nilS => simp only [V1, V0] at hv; subst hv; rfl
  | arr id n => obtain ⟨⟨a, l, c, rfl⟩, _⟩ := hv; rfl
  | ptr id o => obtain ⟨_, _, _, _, _, _, rfl⟩ := hv; rfl
  | eptr a b c d => obtain ⟨⟨a, rfl⟩, _⟩ := hv; rfl
  | ro cs => obtain ⟨_, _, _, rfl, _⟩ := hv; rfl
  | mp a => exact hv.elim
  | clo a b => obtain ⟨us, rfl, _⟩ := hv; rfl
  | _ => simp [V.cellOk] at hc

theorem VRel.v1 {v : Value} {c : V} (hv : VRel X ρ h w v c) (hc : c.cellOk = true) : V1 X ρ h w v c := by
  cases c with
  | agg cs => simp [V.cellOk] at hc
  | tup cs => simp [V.cellOk] at hc
  | _ => exact hv

theorem V1.v2 {v : Value} {c : V} (hv : V1 X ρ h w v c) : V2 X ρ h w v c := by
  cases c with
  | agg cs => exact hv.elim
  | _ => exact hv

theorem V2.vrel {v : Value} {c : V} (hv : V2 X ρ h w v c) : VRel X ρ h w v c := by
  cases c with
  | tup cs => exact hv.elim
  | _ => exact hv

theorem V1.vrel {v : Value} {c : V} (hv : V1 X ρ h w v c) : VRel X ρ h w v c := hv.v2.vrel

theorem VRel.one {v : Value} {c : V} (hv : VRel X ρ h w v c) (hc : c.cellOk = true) : v.oneCell' = true := (hv.v1 hc).one hc

/-- A value's cells. -/
theorem VRel.cells {v : Value} {c : V} (hv : VRel X ρ h w v c) (hc : c.storable = true) : CellsRel X ρ h w v.cells.toList c.cells := by
  have one : ∀ c' : V, c'.cells = [c'] → VRel X ρ h w v c' → c'.storable = true → CellsRel X ρ h w v.cells.toList c'.cells := by
    intro c' e hv' hc'
    simp only [V.storable, e, List.all_cons, List.all_nil, Bool.and_true] at hc'
    have h1 := hv'.one hc'
    have h2 := hv'.v1 hc'
    rw [e, Value.cells_one h1]
    refine ⟨rfl, fun j c'' hj => ?_⟩
    cases j with
    | zero => simp at hj; subst hj; exact ⟨v, by simp, h2, hc'⟩
    | succ j => simp at hj
  cases c with
  | agg cs =>
    obtain ⟨us, rfl, h2, h3⟩ := hv
    refine ⟨by simpa [Value.cells, V.cells] using h2, fun j c hj => ?_⟩
    obtain ⟨u, h4, h5, h6⟩ := h3 j c (by simpa [V.cells] using hj)
    exact ⟨u, by simpa [Value.cells] using h4, h5, h6⟩
  | d x =>
    by_cases hx : x.isCell = true
    · refine one (.d x) ?_ hv hc
      cases x <;> simp_all [V.cells, D.isCell]
    · cases x with
      | agg ds =>
        cases hv with
        | agg us _ vs h1 h2 h3 =>
          refine ⟨by simpa [Value.cells, V.cells] using h1, fun j c hj => ?_⟩
          simp only [V.cells, List.getElem?_map, Option.map_eq_some_iff] at hj
          obtain ⟨y, hy, rfl⟩ := hj
          exact ⟨vs j, by simpa [Value.cells] using (h2 j y hy).1, h3 j y hy, by have := (h2 j y hy).2; cases y <;> simp_all [V.cellOk, D.isCell]⟩
      | _ => simp [D.isCell] at hx
  | nilS => exact one .nilS rfl hv hc
  | arr a b => exact one (.arr a b) rfl hv hc
  | ptr a b => exact one (.ptr a b) rfl hv hc
  | eptr a b c d => exact one (.eptr a b c d) rfl hv hc
  | ro a => exact one (.ro a) rfl hv hc
  | mp a => exact hv.elim
  | clo a b => exact one (.clo a b) rfl hv hc
  | tup a => simp [V.storable, V.cells, V.cellOk] at hc
  | dead => simp [V.storable, V.cells, V.cellOk] at hc

theorem cells_length {v : Value} {c : V} (hv : VRel X ρ h w v c) (hc : c.storable = true) : v.cells.size = c.cells.length := by
  simpa using (hv.cells hc).1

end
end Go.Am
