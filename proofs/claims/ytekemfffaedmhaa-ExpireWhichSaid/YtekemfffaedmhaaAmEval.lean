/- Operands; what is only read. -/
import Derived.Test.YtekemfffaedmhaaAmPure
import Derived.Laws.Append
import Derived.Laws.Entries
set_option linter.all false
namespace Go.Am
section
variable {X : Nat → Nat → Prop} {ρ ρ' ρ'' : Places} {h h' h'' : List Obj} {w w' w'' : World}

theorem constCell_rel (v : Value) : VRel X ρ h w v (constCell v) := by
  unfold constCell
  split <;> first
    | exact Rep.int _ _
    | exact Rep.bool _
    | exact Rep.str _
    | exact Rep.nilP
    | exact Rep.nilM
    | exact Rep.nilF
    | exact Rep.nilI
    | rfl
    | skip
  · rename_i vs
    split
    · rename_i he
      refine ⟨vs, rfl, ?_, fun j c hj => by simp at hj⟩
      simpa using he
    · trivial
  · trivial

theorem mapM_asD {cs : List V} {ds : List D} (hm : cs.mapM V.asD? = some ds) : cs = ds.map .d := by
  induction cs generalizing ds with
  | nil => simp at hm; subst hm; rfl
  | cons c cs ih =>
    simp only [List.mapM_cons, Option.bind_eq_bind, Option.bind_eq_some_iff, Option.pure_def, Option.some.injEq] at hm
    obtain ⟨x, hx, ys, hy, rfl⟩ := hm
    rw [ih hy]
    cases c <;> simp [V.asD?] at hx
    subst hx; rfl

theorem cell_isCell {x : D} (hx : V.cellOk (.d x) = true) : x.isCell = true := by
  cases x <;> simp_all [V.cellOk, D.isCell]

/-- Cells that stand side by side, as one value. -/
theorem mkAgg_rel {us : Array Value} {cs : List V} (hc : CellsRel X ρ h w us.toList cs) : VRel X ρ h w (.agg us) (mkAgg cs) := by
  obtain ⟨h1, h2⟩ := hc
  have h2' : ∀ (j : Nat) (c : V), cs[j]? = some c → ∃ u, us[j]? = some u ∧ V1 X ρ h w u c ∧ c.cellOk = true := fun j c hj => by
    obtain ⟨u, h3, h4, h5⟩ := h2 j c hj
    exact ⟨u, by simpa using h3, h4, h5⟩
  unfold mkAgg
  split
  · rename_i ds hm
    have e := mapM_asD hm
    subst e
    refine Rep.agg us ds (fun j => us.getD j undef) (by simpa using h1) (fun j c hj => ?_) (fun j c hj => ?_)
    · obtain ⟨u, h3, h4, h5⟩ := h2' j (.d c) (by simp [hj])
      exact ⟨by simp [Array.getD_eq_getD_getElem?, h3], cell_isCell h5⟩
    · obtain ⟨u, h3, h4, h5⟩ := h2' j (.d c) (by simp [hj])
      simpa [Array.getD_eq_getD_getElem?, h3] using (show Rep (Mut X ρ h) w u c from h4)
  · exact ⟨us, rfl, by simpa using h1, h2'⟩

theorem cellsRel_const (cs : List Value) (hok : (cs.map constCell).all V.cellOk = true) : CellsRel X ρ h w cs (cs.map constCell) := by
  refine ⟨by simp, fun j c hj => ?_⟩
  simp only [List.getElem?_map, Option.map_eq_some_iff] at hj
  obtain ⟨u, hu, rfl⟩ := hj
  have hk : (constCell u).cellOk = true := by
    rw [List.all_eq_true] at hok
    exact hok _ (List.mem_map_of_mem (List.mem_of_getElem? hu))
  exact ⟨u, hu, (constCell_rel u).v1 hk, hk⟩

theorem constV_rel (v : Value) : VRel X ρ h w v (constV v) := by
  unfold constV
  split
  · rename_i cs
    split
    · rename_i hok
      exact mkAgg_rel (cellsRel_const cs.toList hok)
    · trivial
  · exact constCell_rel v

/-- The variables of the package that are known. -/
def GRel (X : Nat → Nat → Prop) (G : Nat → Option (List D)) (ρ : Places) (h : List Obj) (w : World) : Prop := ∀ g cs, G g = some cs → RoVal (Mut X ρ h) w (.pointer (some ⟨g, 0, none⟩)) cs

theorem GRel.mono {G : Nat → Option (List D)} (hg : GRel X G ρ h w) (hf : Fr X ρ h w ρ' h' w') : GRel X G ρ' h' w' := fun g cs e => (hg g cs e).mono hf.imm

def SRel (X : Nat → Nat → Prop) (ρ : Places) (h : List Obj) (w : World) (tmps : Array Value) (s : Slots) : Prop := ∀ t, VRel X ρ h w (tmps.getD t undef) (sget s t)

theorem SRel.mono {tmps : Array Value} {s : Slots} (hs : SRel X ρ h w tmps s) (st : Stp X ρ h w ρ' h' w') : SRel X ρ' h' w' tmps s := fun t => st.vrel (hs t)

theorem ev_rel {G : Nat → Option (List D)} {a : Act} {s : Slots} (hg : GRel X G ρ h w) (hs : SRel X ρ h w a.tmps s) (x : Operand) : VRel X ρ h w (a.eval x) (ev G s x) := by
  cases x with
  | tmp t => exact hs t
  | const v => exact constV_rel v
  | global g =>
    simp only [ev, Act.eval]
    split
    · rename_i cs e
      exact hg g cs e
    · trivial
  | func f => exact Rep.fn f

/-! ### loads -/

theorem agg_run {P : Program} {t : TypeId} {b : Bool} (hb : agg? P t = some b) : (Go.isAgg t).run P w = .ok b w := by
  unfold agg? at hb
  cases hd : P.underlying t with
  | none => simp [hd] at hb
  | some d =>
    simp only [Go.isAgg, Sem.run_bind, run_underlying hd, Result.andThen_ok]
    cases d <;> simp_all

theorem sizeOf_run {P : Program} {t : TypeId} {n : Nat} (hn : sizeOf? P t = some n) : (sizeOf t).run P w = .ok n w := by
  simp only [sizeOf?, Option.map_eq_some_iff] at hn
  obtain ⟨i, hi, rfl⟩ := hn
  simp [sizeOf, typeInfo, hi]

/-- The cells cs lie at block b from o on. -/
def LieAt (w : World) (b o : Nat) (us : List Value) : Prop := ∀ (j : Nat) (u : Value), us[j]? = some u → w.cell? ⟨b, o + j, none⟩ = some u

theorem run_loadVar_agg {P : Program} {t : TypeId} {b o n : Nat} {us : List Value} (hl : LieAt w b o us) (ha : agg? P t = some true) (hn : sizeOf? P t = some n) (hle : n ≤ us.length) :
    (loadVar t ⟨b, o, none⟩).run P w = .ok (.agg (us.take n).toArray) w := by
  have hr := run_loadCells_list (P := P) w ⟨b, o, none⟩ (us.take n) fun j v hj => by
    rw [Addr.add_lit]
    refine hl j v ?_
    rw [List.getElem?_take] at hj
    split at hj
    · exact hj
    · cases hj
  rw [List.length_take, Nat.min_eq_left hle] at hr
  simp [loadVar, agg_run ha, sizeOf_run hn, hr]

theorem run_loadVar_one {P : Program} {t : TypeId} {b o : Nat} {u : Value} (hl : w.cell? ⟨b, o, none⟩ = some u) (ha : agg? P t = some false) :
    (loadVar t ⟨b, o, none⟩).run P w = .ok u w := by
  simp [loadVar, agg_run ha, hl]

theorem LieAt.drop {b o k : Nat} {us : List Value} (hl : LieAt w b o us) : LieAt w b (o + k) (us.drop k) := fun j u hj => by
  rw [List.getElem?_drop] at hj
  rw [Nat.add_assoc]
  exact hl _ u hj

theorem CellsRel.drop {us : List Value} {cs : List V} (hc : CellsRel X ρ h w us cs) (k : Nat) : CellsRel X ρ h w (us.drop k) (cs.drop k) := by
  refine ⟨by simp [hc.1], fun j c hj => ?_⟩
  rw [List.getElem?_drop] at hj ⊢
  exact hc.2 _ c hj

theorem CellsRel.take {us : List Value} {cs : List V} (hc : CellsRel X ρ h w us cs) (k : Nat) : CellsRel X ρ h w (us.take k) (cs.take k) := by
  refine ⟨by simp [hc.1], fun j c hj => ?_⟩
  rw [List.getElem?_take] at hj ⊢
  split at hj
  · rename_i hlt
    rw [if_pos hlt]
    exact hc.2 _ c hj
  · cases hj

/-- A load out of a box's cells. -/
theorem loadFrom_sound {P : Program} {t : TypeId} {cs : List V} {off b o : Nat} {us : List Value} {x : V} (hx : loadFrom P t cs off = some x) (hl : LieAt w b o us) (hc : CellsRel X ρ h w us cs) :
    ∃ u, (loadVar t ⟨b, o + off, none⟩).run P w = .ok u w ∧ VRel X ρ h w u x := by
  unfold loadFrom at hx
  split at hx
  · rename_i ha
    split at hx
    · rename_i n hn
      split at hx
      · rename_i hle
        simp only [Option.some.injEq] at hx; subst hx
        refine ⟨_, run_loadVar_agg hl.drop ha hn (by simp only [List.length_drop, hc.1]; omega), ?_⟩
        exact mkAgg_rel (by simpa using (hc.drop off).take n)
      · cases hx
    · cases hx
  · rename_i ha
    obtain ⟨u, h1, h2, _⟩ := hc.2 off x hx
    exact ⟨u, run_loadVar_one (hl _ _ h1) ha, h2.vrel⟩
  · cases hx

/-- A load out of cells that nobody changes. -/
theorem loadFromD_sound {P : Program} {t : TypeId} {M : Nat → Nat → Prop} {cs : List D} {off b o : Nat} {us : List Value} {x : V} (hx : loadFromD P t cs off = some x) (hl : LieAt w b o us)
    (hlen : us.length = cs.length) (hc : ∀ (j : Nat) (c : D), cs[j]? = some c → ∃ u, us[j]? = some u ∧ Rep M w u c ∧ c.isCell = true) :
    ∃ u y, (loadVar t ⟨b, o + off, none⟩).run P w = .ok u w ∧ x = .d y ∧ Rep M w u y := by
  unfold loadFromD at hx
  split at hx
  · rename_i ha
    split at hx
    · rename_i n hn
      split at hx
      · rename_i hle
        simp only [Option.some.injEq] at hx; subst hx
        refine ⟨_, _, run_loadVar_agg hl.drop ha hn (by simp only [List.length_drop, hlen]; omega), rfl, ?_⟩
        refine .agg _ _ (fun j => us.getD (off + j) undef) (by simp [hlen]) (fun j c hj => ?_) (fun j c hj => ?_)
        all_goals
          rw [List.getElem?_take] at hj
          split at hj
          · rename_i hlt
            rw [List.getElem?_drop] at hj
            obtain ⟨u, h1, h2, h3⟩ := hc _ c hj
            first
              | exact ⟨by simp [hlt, h1, List.getD], h3⟩
              | simpa [List.getD, h1] using h2
          · cases hj
      · cases hx
    · cases hx
  · rename_i ha
    simp only [Option.map_eq_some_iff] at hx
    obtain ⟨y, hy, rfl⟩ := hx
    obtain ⟨u, h1, h2, _⟩ := hc off y hy
    exact ⟨u, y, run_loadVar_one (hl _ _ h1) ha, rfl, h2⟩
  · cases hx

theorem flat_get {xs : List D} {sz i j : Nat} {x c : D} (hs : ∀ x ∈ xs, x.cells.length = sz) (hi : xs[i]? = some x) (hj : x.cells[j]? = some c) : (flat xs)[i * sz + j]? = some c := by
  induction xs generalizing i with
  | nil => simp at hi
  | cons y ys ih =>
    simp only [flat, List.flatMap_cons]
    cases i with
    | zero =>
      simp only [List.getElem?_cons_zero, Option.some.injEq] at hi; subst hi
      rw [Nat.zero_mul, Nat.zero_add, List.getElem?_append_left (lt_of_getElem? hj)]
      exact hj
    | succ i =>
      have hy := hs y (by simp)
      rw [List.getElem?_append_right (by rw [hy, Nat.add_mul]; omega), hy, show (i + 1) * sz + j - sz = i * sz + j by rw [Nat.add_mul]; omega]
      exact ih (fun x hx => hs x (by simp [hx])) (by simpa using hi)

theorem loadV_sound {P : Program} {t : TypeId} {A x : V} {v : Value} (hx : loadV P h t A = some x) (H : HRel X ρ h w) (hv : VRel X ρ h w v A) :
    ∃ u, (Instr.loadAt t v).run P w = .ok u w ∧ VRel X ρ h w u x := by
  cases A with
  | ptr id off =>
    obtain ⟨o, b, c, h1, h2, h3, rfl⟩ := hv
    simp only [loadV, h1] at hx
    cases o with
    | box cs =>
      obtain ⟨r, h4, h5⟩ := H.obj id _ h1
      rw [h3] at h4; cases h4
      obtain ⟨b', c', cur, e, fz, e1, k1, k2, k3, k4⟩ := h5
      cases e1
      obtain ⟨u, hu, hr⟩ := loadFrom_sound (ρ := ρ) (h := h) (w := w) (b := b) (o := 0) (us := cur.toList) hx (fun j u hj => by rw [cell_of_heap k1, Nat.zero_add]; simpa using hj)
        ⟨by simpa using k2, fun j c hj => by simpa using k4 j c hj⟩
      rw [Nat.zero_add] at hu
      exact ⟨u, by simpa [Instr.loadAt, Instr.sureAddr] using hu, hr⟩
    | arr _ _ _ => simp at hx
    | siter _ _ => simp at hx
  | eptr id n i off =>
    obtain ⟨_, sz, xs, wm, r, h1, h2, _, h4⟩ := hv
    simp only [loadV, h1] at hx
    split at hx
    · rename_i hn
      obtain ⟨b, c, rfl, rfl⟩ := h4 hn
      split at hx
      · rename_i y hy
        obtain ⟨r, h5, h6⟩ := H.obj id _ h1
        rw [h2] at h5; cases h5
        obtain ⟨_, cur, e, fz, k1, k2, k3, k4, k5, k6, k7, k8⟩ := h6
        have hlen := flat_length k6
        have hyl := k6 y (List.mem_of_getElem? hy)
        have hix : i < xs.length := lt_of_getElem? hy
        have hle : i * sz + sz ≤ cur.size := by
          rw [k2]
          have : (i + 1) * sz ≤ c * sz := Nat.mul_le_mul_right _ (by omega)
          rw [Nat.add_mul] at this
          omega
        obtain ⟨u, z, hu, rfl, hr⟩ := loadFromD_sound (w := w) (M := Mut X ρ h) (b := b) (o := i * sz) (us := (cur.toList.drop (i * sz)).take sz) hx
          (fun j u hj => by
            rw [cell_of_heap k1]
            rw [List.getElem?_take] at hj
            split at hj
            · rw [List.getElem?_drop] at hj; simpa using hj
            · cases hj)
          (by simp only [List.length_take, List.length_drop, Array.length_toList, hyl]; omega)
          (fun j c hj => by
            obtain ⟨u, m1, m2, m3⟩ := k8 _ c (flat_get k6 hy hj)
            refine ⟨u, ?_, m2, m3⟩
            have := lt_of_getElem? hj
            rw [List.getElem?_take, if_pos (by omega), List.getElem?_drop]
            simpa using m1)
        exact ⟨u, by simpa [Instr.loadAt, Instr.sureAddr] using hu, hr⟩
      · cases hx
    · cases hx
  | ro cs =>
    obtain ⟨b, o, vs, rfl, h1, h2⟩ := hv
    simp only [loadV] at hx
    obtain ⟨u, z, hu, rfl, hr⟩ := loadFromD_sound (w := w) (M := Mut X ρ h) (b := b) (o := o) (us := (List.range cs.length).map vs) hx
      (fun j u hj => by
        simp only [List.getElem?_map, Option.map_eq_some_iff] at hj
        obtain ⟨k, hk, rfl⟩ := hj
        have hk' := lt_of_getElem? hk
        simp only [List.length_range] at hk'
        rw [List.getElem?_range hk', Option.some.injEq] at hk
        subst hk
        exact (h1 j cs[j] (by simp [hk'])).1)
      (by simp)
      (fun j c hj => ⟨vs j, by simp [List.getElem?_range (lt_of_getElem? hj)], h2 j c hj, (h1 j c hj).2.2⟩)
    rw [Nat.add_zero] at hu
    exact ⟨u, by simpa [Instr.loadAt, Instr.sureAddr] using hu, hr⟩
  | _ => simp [loadV] at hx

end
end Go.Am
