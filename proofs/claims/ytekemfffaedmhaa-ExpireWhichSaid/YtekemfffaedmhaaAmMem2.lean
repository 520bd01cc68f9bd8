/- Literals of slices, append, stores. -/
import Derived.Test.YtekemfffaedmhaaAmMem
set_option linter.all false
namespace Go.Am
section
variable {X : Nat → Nat → Prop} {ρ ρ' ρ'' : Places} {h h' h'' : List Obj} {w w' w'' : World} {P : Program}

/-! ### literals of slices -/

theorem fill_row (size : Nat) : ∀ (rp : List (Nat × Value)) (k : Nat) (us : Array Value), (∀ (j : Nat) (p : Nat × Value), rp[j]? = some p → p.1 = k + j ∧ p.2.cells.size = size) → (k + rp.length) * size ≤ us.size →
    ∃ us', Instr.fill (fun i => some (i * size, size)) us rp = some us' ∧ us'.size = us.size ∧ (∀ j, j < k * size → us'[j]? = us[j]?) ∧
      ∀ (j i : Nat) (p : Nat × Value) (u : Value), rp[j]? = some p → p.2.cells[i]? = some u → us'[(k + j) * size + i]? = some u
  | [], k, us, _, _ => ⟨us, rfl, rfl, fun _ _ => rfl, fun j i p u hj => by simp at hj⟩
  | p :: rp, k, us, hp, hle => by
    obtain ⟨e1, e2⟩ := hp 0 p (by simp)
    simp only [Nat.add_zero] at e1
    simp only [List.length_cons] at hle
    have hle1 : k * size + size ≤ us.size := by
      have : (k + 1) * size ≤ (k + (rp.length + 1)) * size := Nat.mul_le_mul_right _ (by omega)
      rw [Nat.add_mul] at this
      omega
    have hput := foldl_set (k * size) p.2.cells.toList 0 us (by simp only [Array.length_toList]; omega)
    have hsame : (p.2.cells.zipIdx.foldl (fun (cs : Array Value) (x : Value × Nat) => cs.setIfInBounds (k * size + x.2) x.1) us).toList = putCells us.toList (k * size) p.2.cells.toList := by
      rw [← Array.foldl_toList, Array.toList_zipIdx]
      simpa using hput
    generalize hus1 : p.2.cells.zipIdx.foldl (fun (cs : Array Value) (x : Value × Nat) => cs.setIfInBounds (k * size + x.2) x.1) us = us1 at hsame
    have hsz1 : us1.size = us.size := by
      have := congrArg List.length hsame
      rw [putCells_length (by simp only [Array.length_toList]; omega)] at this
      simpa using this
    have hget : ∀ i, us1[i]? = if k * size ≤ i ∧ i < k * size + size then p.2.cells[i - k * size]? else us[i]? := fun i => by
      have : us1[i]? = us1.toList[i]? := by simp
      rw [this, hsame, putCells_get (by simp only [Array.length_toList]; omega)]
      simp only [Array.length_toList, e2, Array.getElem?_toList]
    obtain ⟨us', f1, f2, f3, f4⟩ := fill_row size rp (k + 1) us1 (fun j q hj => by
      obtain ⟨g1, g2⟩ := hp (j + 1) q (by simpa using hj)
      exact ⟨by omega, g2⟩) (by rw [hsz1]; refine Nat.le_trans ?_ hle; exact Nat.mul_le_mul_right _ (by omega))
    refine ⟨us', ?_, by omega, fun j hj => ?_, fun j i q u hj hu => ?_⟩
    · obtain ⟨i, v⟩ := p
      simp only at e1 e2
      subst e1
      simp only [Instr.fill, e2]
      rw [if_neg (by simp; omega)]
      show Instr.fill _ (v.cells.zipIdx.foldl (fun (cs : Array Value) (x : Value × Nat) => cs.setIfInBounds (i * size + x.2) x.1) us) rp = _
      rw [hus1]
      exact f1
    · rw [f3 j (by rw [Nat.add_mul]; omega), hget, if_neg (by omega)]
    · cases j with
      | zero =>
        simp only [List.getElem?_cons_zero, Option.some.injEq] at hj
        subst hj
        have hi : i < size := by
          rw [← e2]
          exact (Array.getElem?_eq_some_iff.1 hu).1
        rw [Nat.add_zero, f3 (k * size + i) (by rw [Nat.add_mul]; omega), hget, if_pos (by omega), Nat.add_sub_cancel_left, hu]
      | succ j =>
        have := f4 j i q u (by simpa using hj) hu
        rwa [show k + 1 + j = k + (j + 1) by omega] at this

theorem inOrder_spec : ∀ {parts : List (Nat × V)} {k : Nat}, inOrder parts k = true → ∀ (j : Nat) (p : Nat × V), parts[j]? = some p → p.1 = k + j
  | [], _, _, j, p, hj => by simp at hj
  | (i, v) :: r, k, ho, j, p, hj => by
    simp only [inOrder, Bool.and_eq_true, beq_iff_eq] at ho
    cases j with
    | zero => simp at hj; subst hj; exact ho.1
    | succ j =>
      have := inOrder_spec ho.2 j p (by simpa using hj)
      omega

theorem flat_inv {xs : List D} {sz : Nat} (hs : ∀ x ∈ xs, x.cells.length = sz) (h0 : 0 < sz) {j : Nat} {c : D} (hj : (flat xs)[j]? = some c) :
    ∃ x, xs[j / sz]? = some x ∧ x.cells[j % sz]? = some c := by
  have hlt := lt_of_getElem? hj
  rw [flat_length hs] at hlt
  have hdiv : j / sz < xs.length := by rw [Nat.div_lt_iff_lt_mul h0]; exact hlt
  have hx : xs[j / sz]? = some xs[j / sz] := by simp [hdiv]
  have hlen := hs xs[j / sz] (by simp)
  have hmod : j % sz < xs[j / sz].cells.length := by rw [hlen]; exact Nat.mod_lt _ h0
  have hc : xs[j / sz].cells[j % sz]? = some xs[j / sz].cells[j % sz] := by simp [hmod]
  refine ⟨_, hx, ?_⟩
  have := flat_get hs hx hc
  rw [Nat.mul_comm, Nat.div_add_mod] at this
  rw [this] at hj
  rw [hc]
  exact hj

theorem buildSliceV_sound {t : TypeId} {len : Nat} {parts : List (Nat × V)} {x : V} {rp : List (Nat × Value)} (hx : buildSliceV P h t len parts = some (x, h')) (H : HRel X ρ h w) (hl : rp.length = parts.length)
    (hp : ∀ (j : Nat) (p : Nat × V), parts[j]? = some p → ∃ u, rp[j]? = some (p.1, u) ∧ VRel X ρ h w u p.2) :
    ∃ v ρ' w', (Instr.buildSlice t len rp.toArray).run P w = .ok v w' ∧ Stp X ρ h w ρ' h' w' ∧ VRel X ρ' h' w' v x := by
  unfold buildSliceV at hx
  split at hx
  · rename_i e hs
    split at hx
    · rename_i sz z hsz hz
      split at hx
      · rename_i hcond
        obtain ⟨c1, c2, c3, c4⟩ := hcond
        split at hx
        · rename_i xs h1 hxs
          split at hx
          · rename_i hall
            simp only [Option.some.injEq, Prod.mk.injEq] at hx; obtain ⟨rfl, rfl⟩ := hx
            obtain ⟨st, e1, r1⟩ := pureVs_sound (ρ := ρ) (w := w) (parts.map (·.2)) h (fun j => (rp.getD j default).2) xs h1 hxs H fun j c hj => by
              simp only [List.getElem?_map, Option.map_eq_some_iff] at hj
              obtain ⟨p, hpj, rfl⟩ := hj
              obtain ⟨u, hu1, hu2⟩ := hp j p hpj
              simpa [List.getD, hu1] using hu2
            simp only [List.length_map] at e1
            have hcells := allSize_spec hall
            have hxlen : xs.length = len := by omega
            have hrp : ∀ (j : Nat) (p : Nat × Value), rp[j]? = some p → ∃ y, xs[j]? = some y ∧ p.1 = 0 + j ∧ Rep (Mut X ρ h1) w p.2 y := fun j p hj => by
              have hjlt := lt_of_getElem? hj
              have hj2 : j < parts.length := by omega
              have hj3 : j < xs.length := by omega
              obtain ⟨u, hu1, _⟩ := hp j parts[j] (by simp [hj2])
              rw [hj] at hu1
              simp only [Option.some.injEq] at hu1
              refine ⟨xs[j], by simp [hj3], ?_, ?_⟩
              · rw [hu1]
                exact inOrder_spec c4 j parts[j] (by simp [hj2])
              · have := r1 j xs[j] (by simp [hj3])
                simpa [List.getD, hj] using this
            have hsize : ∀ (z : Array Value), ((Array.range (len * sz)).map (z[· % z.size]!)).size = len * sz := fun z => by simp
            obtain ⟨us', f1, f2, _, f4⟩ := fill_row sz rp 0 ((Array.range (len * sz)).map ((if len * sz = 0 then #[] else z.cells)[· % (if len * sz = 0 then #[] else z.cells).size]!)) (fun j p hj => by
                obtain ⟨y, hy, hi, hr⟩ := hrp j p hj
                exact ⟨hi, by rw [hr.cells.1, hcells y (List.mem_of_getElem? hy)]⟩) (by rw [hsize, hl, c2, Nat.zero_add]; exact Nat.le_refl _)
            rw [hsize] at f2
            obtain ⟨s1, s2⟩ := new_arr (w' := w) st.rel rfl rfl rfl rfl e (us := us') (xs := xs) (sz := sz) (cap := len) c1 f2 (by omega)
              (by simp only [maxLen]; have : len * 1 ≤ len * sz := Nat.mul_le_mul_left _ c1; omega) hcells
              (fun j c hj => by
                obtain ⟨y, hy1, hy2⟩ := flat_inv hcells c1 hj
                have hlt := lt_of_getElem? hy1
                have hrj : rp[j / sz]? = some rp[j / sz] := by simp [show j / sz < rp.length by omega]
                obtain ⟨y', hy', _, hr⟩ := hrp _ _ hrj
                rw [hy1] at hy'; cases hy'
                obtain ⟨u, hu1, hu2, hu3⟩ := hr.cells.2 _ c hy2
                refine ⟨u, ?_, hu2, hu3⟩
                have := f4 _ _ _ u hrj hu1
                rwa [Nat.zero_add, Nat.mul_comm, Nat.div_add_mod] at this)
            rw [hxlen] at s2
            refine ⟨_, _, _, ?_, st.trans H s1, s2⟩
            have hnot : ¬ (2 ^ 24 < len * sz) := by omega
            by_cases h0 : len * sz = 0
            · simp only [h0, if_true] at f1
              simp only [Instr.buildSlice, Sem.run_bind, run_underlying hs, Result.andThen_ok, sizeOf_run hsz, h0]
              rw [if_neg (by omega), if_pos trivial]
              simp only [Sem.run_bind, Sem.run_pure, Result.andThen_ok]
              rw [f1]
              rfl
            · simp only [h0, if_false] at f1
              simp only [Instr.buildSlice, Sem.run_bind, run_underlying hs, Result.andThen_ok, sizeOf_run hsz]
              rw [if_neg (by omega), if_neg h0]
              simp only [Sem.run_bind, zeroValue_run hz, Sem.run_pure, Result.andThen_ok]
              rw [f1]
              rfl
          · cases hx
        · cases hx
      · cases hx
    · cases hx
  · cases hx

/-! ### append -/

theorem bytes_cells (s : ByteArray) : flat (s.data.toList.map byteD) = s.data.toList.map byteD := flat_one fun y hy => by simp at hy; obtain ⟨b, _, rfl⟩ := hy; rfl

theorem source_sound {t : TypeId} {A : V} {ys : List D} {v : Value} {size : Nat} (hx : source? P h t A = some ys) (H : HRel X ρ h w) (hv : VRel X ρ h w v A) (hall : ∀ y ∈ ys, y.cells.length = size) :
    ∃ news : List Value, (∃ d, P.underlying t = some d ∧ ∀ k, d ≠ .int k) ∧ (∀ w0 : World, (Builtin.lenOf v).run P w0 = .ok ys.length w0) ∧
      (∀ w0 : World, (∀ a, w0.cell? a = w.cell? a) → (Builtin.firstCells size ys.length v).run P w0 = .ok news.toArray w0) ∧ news.length = ys.length * size ∧
      ∀ (j : Nat) (c : D), (flat ys)[j]? = some c → ∃ u, news[j]? = some u ∧ Rep (Mut X ρ h) w u c ∧ c.isCell = true := by
  unfold source? at hx
  split at hx
  · rename_i s hs
    cases hv
    simp only [Option.some.injEq] at hx; subst hx
    have hsz : (s.data.toList.map byteD).length = s.size := by simp
    refine ⟨s.data.toList.map fun b => .int .u8 b.toNat, ⟨_, hs, fun k => by simp⟩, fun w0 => by simp [Builtin.lenOf], fun w0 _ => ?_, ?_, fun j c hj => ?_⟩
    · simp only [Builtin.firstCells, hsz, Sem.run_pure]
      congr 1
      apply Array.ext'
      simp
    · rw [List.length_map]
      rcases Nat.eq_zero_or_pos s.size with e | e
      · simp [e]
      · obtain ⟨y, hy⟩ := List.exists_mem_of_length_pos (l := s.data.toList.map byteD) (by rw [hsz]; exact e)
        have h1 := hall y hy
        simp only [List.mem_map] at hy
        obtain ⟨b, _, rfl⟩ := hy
        simp only [byteD, D.cells, List.length_cons, List.length_nil] at h1
        rw [← h1]
        simp
    · rw [bytes_cells] at hj
      simp only [List.getElem?_map, Option.map_eq_some_iff] at hj ⊢
      obtain ⟨b, hb, rfl⟩ := hj
      exact ⟨_, ⟨b, hb, rfl⟩, .int _ _, rfl⟩
  · rename_i e hs
    obtain ⟨a, cap, rfl, hc⟩ := elems_sound hx H hv
    rcases hc with rfl | ⟨b, o, sz, rfl, h1, h2⟩
    · refine ⟨[], ⟨_, hs, fun k => by simp⟩, fun w0 => by simp [Builtin.lenOf], fun w0 _ => ?_, by simp, fun j c hj => by simp [flat] at hj⟩
      cases a with
      | none => simp [Builtin.firstCells]
      | some a => simpa using run_firstCells_some (P := P) w0 size 0 a 0 cap [] (by simp) (by simp)
    · have hflen := flat_length hall
      have hval : ∀ j, j < (flat ys).length → ∃ u, w.cell? ⟨b, o + j, none⟩ = some u := fun j hj => by
        obtain ⟨u, hu, _⟩ := h2 j (flat ys)[j] (by simp [hj])
        exact ⟨u, hu⟩
      let news : List Value := (List.range (flat ys).length).map fun j => (w.cell? ⟨b, o + j, none⟩).getD undef
      have hn : ∀ (j : Nat) (u : Value), news[j]? = some u → w.cell? ⟨b, o + j, none⟩ = some u := fun j u hj => by
        simp only [news, List.getElem?_map, Option.map_eq_some_iff] at hj
        obtain ⟨i, hi, rfl⟩ := hj
        have hlt := lt_of_getElem? hi
        simp only [List.length_range] at hlt
        rw [List.getElem?_range hlt, Option.some.injEq] at hi
        subst hi
        obtain ⟨u, hu⟩ := hval j hlt
        simp [hu]
      refine ⟨news, ⟨_, hs, fun k => by simp⟩, fun w0 => by simp [Builtin.lenOf], fun w0 hw => ?_, by simp [news, hflen], fun j c hj => ?_⟩
      · exact run_firstCells_some (P := P) w0 size ys.length ⟨b, o, none⟩ ys.length cap news (by simp [news, hflen]) fun j u hj => by
          rw [Addr.add_lit, hw]; exact hn j u hj
      · obtain ⟨u, hu, h3, h4⟩ := h2 j c hj
        refine ⟨u, ?_, h3, h4⟩
        simp [news, List.getElem?_range (lt_of_getElem? hj), hu]
  · cases hx

end
end Go.Am
