/- More operations that make no memory and write none. -/
import Derived.Test.YtekemfffaedmhaaAmOps
set_option linter.all false
namespace Go.Am
section
variable {X : Nat → Nat → Prop} {ρ ρ' ρ'' : Places} {h h' h'' : List Obj} {w w' w'' : World} {P : Program}

theorem part_agg {t : TypeId} {n off : Nat} {cs : Array Value} (ha : agg? P t = some true) (hn : sizeOf? P t = some n) :
    (part t cs off).run P w = .ok (.agg (cs.extract off (off + n))) w := by
  simp [part, agg_run ha, sizeOf_run hn]

theorem part_one {t : TypeId} {off : Nat} {cs : Array Value} {u : Value} (ha : agg? P t = some false) (hu : cs[off]? = some u) : (part t cs off).run P w = .ok u w := by
  simp [part, agg_run ha, hu]

theorem partD_sound {t : TypeId} {M : Nat → Nat → Prop} {ds : List D} {off : Nat} {cs : Array Value} {x : V} (hx : loadFromD P t ds off = some x) (hlen : cs.size = ds.length)
    (hc : ∀ (j : Nat) (c : D), ds[j]? = some c → ∃ u, cs[j]? = some u ∧ Rep M w u c ∧ c.isCell = true) :
    ∃ u y, (part t cs off).run P w = .ok u w ∧ x = .d y ∧ Rep M w u y := by
  unfold loadFromD at hx
  split at hx
  · rename_i ha
    split at hx
    · rename_i n hn
      split at hx
      · rename_i hle
        simp only [Option.some.injEq] at hx; subst hx
        refine ⟨_, _, part_agg ha hn, rfl, .agg _ _ (fun j => cs.getD (off + j) undef) (by simp [hlen]; omega) (fun j c hj => ?_) (fun j c hj => ?_)⟩
        all_goals
          rw [List.getElem?_take] at hj
          split at hj
          · rename_i hlt
            rw [List.getElem?_drop] at hj
            obtain ⟨u, h1, h2, h3⟩ := hc _ c hj
            have h4 : off + j < cs.size := by have := lt_of_getElem? hj; omega
            first
              | (refine ⟨?_, h3⟩
                 rw [Array.getElem?_extract, if_pos (by omega), h1]
                 simp [Array.getD_eq_getD_getElem?, h1])
              | simpa [Array.getD_eq_getD_getElem?, h1] using h2
          · cases hj
      · cases hx
    · cases hx
  · rename_i ha
    simp only [Option.map_eq_some_iff] at hx
    obtain ⟨y, hy, rfl⟩ := hx
    obtain ⟨u, h1, h2, _⟩ := hc off y hy
    exact ⟨u, y, part_one ha h1, rfl, h2⟩
  · cases hx

theorem partV_sound {t : TypeId} {vs : List V} {off : Nat} {cs : Array Value} {x : V} (hx : loadFrom P t vs off = some x) (hc : CellsRel X ρ h w cs.toList vs) :
    ∃ u, (part t cs off).run P w = .ok u w ∧ VRel X ρ h w u x := by
  unfold loadFrom at hx
  split at hx
  · rename_i ha
    split at hx
    · rename_i n hn
      split at hx
      · rename_i hle
        simp only [Option.some.injEq] at hx; subst hx
        refine ⟨_, part_agg ha hn, mkAgg_rel ?_⟩
        have := (hc.drop off).take n
        have e : (cs.extract off (off + n)).toList = (cs.toList.drop off).take n := by
          rw [Array.toList_extract, List.extract_eq_take_drop, Nat.add_sub_cancel_left]
        rwa [e]
      · cases hx
    · cases hx
  · rename_i ha
    obtain ⟨u, h1, h2, _⟩ := hc.2 off x hx
    exact ⟨u, part_one ha (by simpa using h1), h2.vrel⟩
  · cases hx

theorem Rep.aggCells {M : Nat → Nat → Prop} {v : Value} {ds : List D} (hr : Rep M w v (.agg ds)) : ∃ cs : Array Value, v = .agg cs ∧ cs.size = ds.length ∧
    ∀ (j : Nat) (c : D), ds[j]? = some c → ∃ u, cs[j]? = some u ∧ Rep M w u c ∧ c.isCell = true := by
  cases hr with
  | agg cs _ vs h1 h2 h3 => exact ⟨cs, rfl, h1, fun j c hj => ⟨vs j, (h2 j c hj).1, h3 j c hj, (h2 j c hj).2⟩⟩

theorem aggV_cells {v : Value} {cs : List V} (hv : VRel X ρ h w v (.agg cs)) : ∃ us : Array Value, v = .agg us ∧ CellsRel X ρ h w us.toList cs := by
  obtain ⟨us, h1, h2, h3⟩ := hv
  exact ⟨us, h1, by simpa using h2, fun j c hj => by simpa using h3 j c hj⟩

theorem fieldV_sound {t : TypeId} {A x : V} {f : Nat} {v : Value} (hx : fieldV P t A f = some x) (hv : VRel X ρ h w v A) :
    ∃ u, (Instr.field t v f).run P w = .ok u w ∧ VRel X ρ h w u x := by
  unfold fieldV at hx
  split at hx
  · rename_i o ft hf
    unfold fieldOff? at hf
    split at hf
    · rename_i fs hs
      split at hf
      · rename_i fd hfd
        split at hf
        · rename_i n hsz
          simp only [Option.some.injEq, Prod.mk.injEq] at hf
          obtain ⟨rfl, rfl⟩ := hf
          split at hx
          · rename_i ds
            obtain ⟨cs, rfl, h1, h2⟩ := Rep.aggCells hv
            obtain ⟨u, y, h3, rfl, h4⟩ := partD_sound hx h1 h2
            exact ⟨u, by simp [Instr.field, run_underlying hs, hfd, asAgg, h3], h4⟩
          · rename_i cs
            obtain ⟨us, rfl, h1⟩ := aggV_cells hv
            obtain ⟨u, h3, h4⟩ := partV_sound hx h1
            exact ⟨u, by simp [Instr.field, run_underlying hs, hfd, asAgg, h3], h4⟩
          · cases hx
        · cases hf
      · cases hf
    · cases hf
  · cases hx

theorem indexV_sound {t : TypeId} {A I x : V} {v i : Value} (hx : indexV P t A I = some x) (hv : VRel X ρ h w v A) (hi : VRel X ρ h w i I) :
    ∃ u, (Instr.index t v i).run P w = .ok u w ∧ VRel X ρ h w u x := by
  unfold indexV at hx
  split at hx
  · rename_i s k n hs
    cases hv; cases hi
    split at hx
    · rename_i hn
      simp only [Option.map_eq_some_iff] at hx
      obtain ⟨b, hb, rfl⟩ := hx
      exact ⟨_, by simp [Instr.index, asIntOf, run_underlying hs, hn, hb], .int _ _⟩
    · cases hx
  · rename_i len e k n hs
    cases hi
    split at hx
    · rename_i hn
      split at hx
      · rename_i ds sz hsz
        obtain ⟨cs, rfl, h1, h2⟩ := Rep.aggCells hv
        obtain ⟨u, y, h3, rfl, h4⟩ := partD_sound hx h1 h2
        exact ⟨u, by simp [Instr.index, asIntOf, run_underlying hs, hn, sizeOf_run hsz, h3], h4⟩
      · rename_i cs sz hsz
        obtain ⟨us, rfl, h1⟩ := aggV_cells hv
        obtain ⟨u, h3, h4⟩ := partV_sound hx h1
        exact ⟨u, by simp [Instr.index, asIntOf, run_underlying hs, hn, sizeOf_run hsz, h3], h4⟩
      · cases hx
    · cases hx
  · cases hx

theorem extractV_sound {A x : V} {i : Nat} {v : Value} (hx : extractV i A = some x) (hv : VRel X ρ h w v A) :
    ∃ u, (Instr.extract v i).run P w = .ok u w ∧ VRel X ρ h w u x := by
  unfold extractV at hx
  split at hx
  · rename_i vs
    obtain ⟨us, rfl, h1, h2⟩ := hv
    obtain ⟨u, h3, h4⟩ := h2 i x hx
    exact ⟨u, by simp [Instr.extract, h3], h4.vrel⟩
  · cases hx

theorem pickV_sound {C A B x : V} {c a b : Value} (hx : pickV C A B = some x) (hc : VRel X ρ h w c C) (ha : VRel X ρ h w a A) (hb : VRel X ρ h w b B) :
    ∃ t, c = .bool t ∧ VRel X ρ h w (if t then a else b) x := by
  unfold pickV at hx
  split at hx
  · rename_i t
    cases hc
    simp only [Option.some.injEq] at hx; subst hx
    refine ⟨t, rfl, ?_⟩
    cases t <;> simpa
  · cases hx

theorem nilCheckV_sound {A x : V} {v : Value} (hx : nilCheckV h A = some (x, h')) (hv : VRel X ρ h w v A) : h' = h ∧ (∃ a, v = .pointer (some a)) ∧ VRel X ρ h w v x := by
  unfold nilCheckV at hx
  split at hx
  · simp only [Option.some.injEq, Prod.mk.injEq] at hx; obtain ⟨rfl, rfl⟩ := hx
    obtain ⟨o, b, c, h1, h2, h3, rfl⟩ := id hv
    exact ⟨rfl, ⟨_, rfl⟩, hv⟩
  · simp only [Option.some.injEq, Prod.mk.injEq] at hx; obtain ⟨rfl, rfl⟩ := hx
    obtain ⟨⟨a, rfl⟩, _⟩ := id hv
    exact ⟨rfl, ⟨_, rfl⟩, hv⟩
  · simp only [Option.some.injEq, Prod.mk.injEq] at hx; obtain ⟨rfl, rfl⟩ := hx
    obtain ⟨b, o, vs, rfl, _⟩ := id hv
    exact ⟨rfl, ⟨_, rfl⟩, hv⟩
  · cases hx

/-! ### lists that are read -/

/-- A slice whose elements are read: its cells. -/
def Reads (M : Nat → Nat → Prop) (w : World) (v : Value) (xs : List D) : Prop :=
  ∃ a cap, v = .slice a xs.length cap ∧ ((xs = []) ∨ ∃ b o sz, a = some ⟨b, o, none⟩ ∧ (∀ x ∈ xs, x.cells.length = sz) ∧
    ∀ (j : Nat) (c : D), (flat xs)[j]? = some c → ∃ u, w.cell? ⟨b, o + j, none⟩ = some u ∧ Rep M w u c ∧ c.isCell = true)

theorem elems_sound {A : V} {xs : List D} {v : Value} (hx : elems? h A = some xs) (H : HRel X ρ h w) (hv : VRel X ρ h w v A) : Reads (Mut X ρ h) w v xs := by
  unfold elems? at hx
  split at hx
  · simp only [Option.some.injEq] at hx; subst hx
    cases hv with
    | nil a c => exact ⟨a, c, rfl, .inl rfl⟩
    | list b off len cap sz _ vs e1 e2 e3 e4 e5 =>
      subst e1
      exact ⟨_, cap, rfl, .inr ⟨b, off, sz, rfl, e3, fun j c hj => ⟨vs j, (e4 j c hj).1, e5 j c hj, (e4 j c hj).2.2⟩⟩⟩
  · simp only [Option.some.injEq] at hx; subst hx
    exact ⟨none, 0, hv, .inl rfl⟩
  · rename_i id n
    split at hx
    · rename_i sz ys wm ho
      split at hx
      · rename_i hn
        simp only [Option.some.injEq] at hx; subst hx
        obtain ⟨_, sz2, xs2, wm2, r, h1, h2, h3, h4⟩ := hv
        rw [ho] at h1; cases h1
        have hav := h4 hn
        obtain ⟨r', h5, h6⟩ := H.obj id _ ho
        rw [h2] at h5; cases h5
        have h7 := h6.2
        cases r with
        | none =>
          subst h7
          obtain ⟨rfl, a, rfl⟩ := hav
          exact ⟨a, 0, rfl, .inl rfl⟩
        | some p =>
          obtain ⟨b, cap⟩ := p
          obtain ⟨cur, e, fz, k1, k2, k3, k4, k5, k6, k7, k8⟩ := h7
          simp only [ArrVal] at hav
          subst hav; subst hn
          exact ⟨_, cap, rfl, .inr ⟨b, 0, sz, rfl, k6, fun j c hj => by
            obtain ⟨u, m1, m2, m3⟩ := k8 j c hj
            exact ⟨u, by rw [cell_of_heap k1, Nat.zero_add, m1], m2, m3⟩⟩⟩
      · cases hx
    · cases hx
  · cases hx

theorem lenV_sound {t : TypeId} {A : V} {n : Nat} {v : Value} {ty : TypeId} {ts : Array TypeId} {vs : Array Value} (hx : lenV P h t A = some n) (H : HRel X ρ h w) (hv : VRel X ρ h w v A)
    (ht : ts[0]? = some t) (hvs : vs[0]? = some v) : (Builtin.len_ ts ty vs).run P w = .ok (.int .i64 n) w := by
  unfold lenV at hx
  split at hx
  · rename_i s hs
    cases hv
    simp only [Option.some.injEq] at hx; subst hx
    simp [Builtin.len_, ht, hvs, run_underlying hs, goInt]
  · rename_i e xs hs
    simp only [Option.some.injEq] at hx; subst hx
    cases hv with
    | nil a c => simp [Builtin.len_, ht, hvs, run_underlying hs, goInt]
    | list b off len cap sz _ vs' e1 e2 e3 e4 e5 => simp [Builtin.len_, ht, hvs, run_underlying hs, goInt, e1]
  · rename_i e hs
    simp only [Option.some.injEq] at hx; subst hx
    have hv' : v = .slice none 0 0 := hv
    subst hv'
    simp [Builtin.len_, ht, hvs, run_underlying hs, goInt]
  · rename_i e id m hs
    split at hx
    · rename_i sz xs wm ho
      split at hx
      · rename_i hn
        simp only [Option.some.injEq] at hx; subst hx
        have hr := elems_sound (ρ := ρ) (A := .arr id m) (xs := xs) (v := v) (by simp [elems?, ho, hn]) H hv
        obtain ⟨a, cap, rfl, _⟩ := hr
        simp [Builtin.len_, ht, hvs, run_underlying hs, goInt, hn]
      · cases hx
    · cases hx
  · rename_i k e hs
    simp only [Option.some.injEq] at hx; subst hx
    simp [Builtin.len_, ht, hvs, run_underlying hs, goInt]
  · cases hx

theorem min2_sound {A B x : V} {v u : Value} (hx : min2 A B = some x) (hv : VRel X ρ h w v A) (hu : VRel X ρ h w u B) : ∃ z, (Builtin.min2 v u).run P w = .ok z w ∧ VRel X ρ h w z x := by
  unfold min2 at hx
  split at hx
  · cases hv; cases hu
    split at hx
    · rename_i hk
      subst hk
      simp only [Option.some.injEq] at hx; subst hx
      exact ⟨_, rfl, .int _ _⟩
    · cases hx
  · cases hx

theorem max2_sound {A B x : V} {v u : Value} (hx : max2 A B = some x) (hv : VRel X ρ h w v A) (hu : VRel X ρ h w u B) : ∃ z, (Builtin.max2 v u).run P w = .ok z w ∧ VRel X ρ h w z x := by
  unfold max2 at hx
  split at hx
  · cases hv; cases hu
    split at hx
    · rename_i hk
      subst hk
      simp only [Option.some.injEq] at hx; subst hx
      exact ⟨_, rfl, .int _ _⟩
    · cases hx
  · cases hx

theorem foldV_sound {f : V → V → Option V} {g : Value → Value → Sem Value} (hf : ∀ A B x v u, f A B = some x → VRel X ρ h w v A → VRel X ρ h w u B → ∃ z, (g v u).run P w = .ok z w ∧ VRel X ρ h w z x) :
    ∀ (r : List V) (us : List Value) (A x : V) (v : Value), foldV f A r = some x → VRel X ρ h w v A → us.length = r.length → (∀ (j : Nat) (c : V), r[j]? = some c → ∃ u, us[j]? = some u ∧ VRel X ρ h w u c) →
      ∃ z, (us.foldlM g v).run P w = .ok z w ∧ VRel X ρ h w z x
  | [], us, A, x, v, hx, hv, hl, _ => by
    simp only [foldV, Option.some.injEq] at hx; subst hx
    have : us = [] := List.eq_nil_of_length_eq_zero (by simpa using hl)
    subst this
    exact ⟨v, rfl, hv⟩
  | B :: r, us, A, x, v, hx, hv, hl, hc => by
    simp only [foldV] at hx
    split at hx
    · rename_i z hz
      cases us with
      | nil => simp at hl
      | cons u us =>
        obtain ⟨u', hu1, hu2⟩ := hc 0 B (by simp)
        simp at hu1; subst hu1
        obtain ⟨z', h1, h2⟩ := hf A B z v u hz hv hu2
        obtain ⟨z'', h3, h4⟩ := foldV_sound hf r us z x z' hx h2 (by simpa using hl) fun j c hj => by simpa using hc (j + 1) c (by simpa using hj)
        exact ⟨z'', by simp [List.foldlM_cons, h1, h3], h4⟩
    · cases hx

end
end Go.Am
