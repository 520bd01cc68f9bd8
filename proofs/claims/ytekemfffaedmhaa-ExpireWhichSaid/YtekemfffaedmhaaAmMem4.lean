/- Stores; a string's bytes as a new list. -/
import Derived.Test.YtekemfffaedmhaaAmMem3
set_option linter.all false
namespace Go.Am
section
variable {X : Nat → Nat → Prop} {ρ ρ' ρ'' : Places} {h h' h'' : List Obj} {w w' w'' : World} {P : Program}

theorem run_storeVar {t : TypeId} {b o : Nat} {v : Value} {cur : Array Value} {e : TypeId} {fz : Nat × Nat} (hn : sizeOf? P t = some v.cells.size) (hb : w.heap[b]? = some (.cells cur e fz)) (hle : o + v.cells.size ≤ cur.size)
    (hu : Unfrozen w b cur.size) (h1 : ∀ u ∈ v.cells.toList, u.oneCell' = true) : (Instr.storeAt t (.pointer (some ⟨b, o, none⟩)) v).run P w = .ok () (w.setCells b o v.cells.toList) := by
  have := run_put (P := P) (o := o) (vs := v.cells.toList) hb (by simpa using hle) hu h1
  simp [Instr.storeAt, Instr.sureAddr, storeVar, sizeOf_run hn, this]

theorem storeV_sound {t : TypeId} {A Y : V} {a v : Value} (hx : storeV P h t A Y = some h') (H : HRel X ρ h w) (ha : VRel X ρ h w a A) (hv : VRel X ρ h w v Y) :
    ∃ w', (Instr.storeAt t a v).run P w = .ok () w' ∧ Stp X ρ h w ρ h' w' := by
  unfold storeV at hx
  split at hx
  · rename_i id off
    obtain ⟨ob, b, c, p1, p2, p3, rfl⟩ := ha
    split at hx
    · rename_i cs ho
      rw [ho] at p1; cases p1
      split at hx
      · rename_i n hn
        split at hx
        · rename_i hc
          obtain ⟨c1, c2, c3⟩ := hc
          simp only [Option.some.injEq] at hx; subst hx
          obtain ⟨r, q1, q2⟩ := H.obj id _ ho
          rw [p3] at q1; cases q1
          obtain ⟨b', c', cur, e, fz, e1, m1, m2, m3, m4⟩ := q2
          cases e1
          have hcell := hv.cells c3
          have hsz : v.cells.size = n := by rw [cells_length hv c3, c1]
          have hle : off + v.cells.toList.length ≤ cur.size := by simp only [Array.length_toList]; omega
          have hone : ∀ u ∈ v.cells.toList, u.oneCell' = true := fun u hu => by
            obtain ⟨j, hj⟩ := List.getElem?_of_mem hu
            have hjl := lt_of_getElem? hj
            have hjl' : j < Y.cells.length := by have := hcell.1; omega
            obtain ⟨u', e1, e2, e3⟩ := hcell.2 j Y.cells[j] (by simp [hjl'])
            rw [hj] at e1; cases e1
            exact e2.one e3
          have hr := run_storeVar (P := P) (t := t) (o := off) (v := v) (by rw [hsz, hn]) m1 (by omega) m3 hone
          obtain ⟨cur', c4, c5⟩ := setCells_heap b v.cells.toList off w cur e fz m1 hle
          have hcur' : cur'.size = cur.size := by
            have := congrArg List.length c5
            rw [putCells_length (by simpa using hle)] at this
            simpa using this
          obtain ⟨t1, t2, t3⟩ := setCells_rest b v.cells.toList off w
          have hstep := step_set (w' := w.setCells b off v.cells.toList) (r' := some (b, c)) (o' := .box (putCells cs off Y.cells)) H ho p3 t1 t2 t3 (by rw [setCells_size]; exact Nat.le_refl _)
            (fun k _ hk => setCells_other b _ _ w k fun e => hk c (by rw [e])) (.inl rfl)
            (fun j u b' c' _ hmu _ => absurd trivial hmu) (fun _ j hj => hj) ⟨putCells_length (by omega), rfl⟩
            (fun hf he => ⟨b, c, cur', e, fz, rfl, c4, by rw [hcur', m2, putCells_length (by omega)], by rw [hcur']; exact unfrozen_setCells m3, fun j x hj => by
              rw [putCells_get (by omega)] at hj
              have hg : cur'[j]? = if off ≤ j ∧ j < off + Y.cells.length then v.cells.toList[j - off]? else cur[j]? := by
                have : cur'[j]? = cur'.toList[j]? := by simp
                rw [this, c5, putCells_get (by simpa using hle), hcell.1]
                simp
              rw [hg]
              split at hj
              · rename_i hin
                rw [if_pos hin]
                obtain ⟨u, e1, e2, e3⟩ := hcell.2 _ x hj
                exact ⟨u, e1, e2.mono hf he, e3⟩
              · rename_i hin
                rw [if_neg hin]
                obtain ⟨u, e1, e2, e3⟩ := m4 _ x hj
                exact ⟨u, e1, e2.mono hf he, e3⟩⟩)
          rw [set_self p3] at hstep
          exact ⟨_, hr, hstep.1, hstep.2.1, hstep.2.2⟩
        · cases hx
      · cases hx
    · cases hx
  · rename_i id n i off
    split at hx
    · rename_i y h1 m hp hm
      obtain ⟨st, hrep⟩ := pureV_sound hp H hv
      have ha1 := st.vrel ha
      have H1 := st.rel
      split at hx
      · rename_i sz xs wm ho
        split at hx
        · rename_i x hxi
          split at hx
          · rename_i hc
            obtain ⟨rfl, c2, c3, c4⟩ := hc
            obtain ⟨_, sz1, xs1, wm1, r, p1, p2, _, p4⟩ := ha1
            rw [ho] at p1; cases p1
            obtain ⟨b, cap, rfl, rfl⟩ := p4 rfl
            obtain ⟨r, q1, q2⟩ := H1.obj id _ ho
            rw [p2] at q1; cases q1
            obtain ⟨hwm, cur, e, fz, m1, m2, m3, m4, m5, m6, m7, m8⟩ := q2
            have hil : i < xs.length := lt_of_getElem? hxi
            have hxl := m6 x (List.mem_of_getElem? hxi)
            obtain ⟨k1, k2⟩ := hrep.cells
            have hvs : v.cells.size = m := by omega
            have hle : i * sz + off + v.cells.toList.length ≤ cur.size := by
              have h2 : (i + 1) * sz ≤ cap * sz := Nat.mul_le_mul_right _ (by omega)
              rw [Nat.add_mul] at h2
              simp only [Array.length_toList]
              omega
            have hone : ∀ u ∈ v.cells.toList, u.oneCell' = true := fun u hu => by
              obtain ⟨j, hj⟩ := List.getElem?_of_mem hu
              have hjl := lt_of_getElem? hj
              simp only [Array.length_toList] at hjl
              have hjl' : j < y.cells.length := by omega
              obtain ⟨u', e1, e2, e3⟩ := k2 j y.cells[j] (by simp [hjl'])
              rw [Array.getElem?_toList] at hj
              rw [hj] at e1; cases e1
              exact e2.one e3
            have hr := run_storeVar (P := P) (t := t) (o := i * sz + off) (v := v) (by rw [hvs, hm]) m1 (by simpa using hle) m7 hone
            obtain ⟨cur', c5, c6⟩ := setCells_heap b v.cells.toList (i * sz + off) w cur e fz m1 hle
            have hcur' : cur'.size = cur.size := by
              have := congrArg List.length c6
              rw [putCells_length (by simpa using hle)] at this
              simpa using this
            obtain ⟨t1, t2, t3⟩ := setCells_rest b v.cells.toList (i * sz + off) w
            have hg : ∀ j, cur'[j]? = if i * sz + off ≤ j ∧ j < i * sz + off + m then v.cells[j - (i * sz + off)]? else cur[j]? := fun j => by
              have : cur'[j]? = cur'.toList[j]? := by simp
              rw [this, c6, putCells_get (by simpa using hle)]
              simp [hvs]
            -- the new element
            obtain ⟨x', hx', hxl', hxc', hxe⟩ : ∃ x' : D, h' = h1.set id (.arr sz (xs.set i x') wm) ∧ x'.cells.length = sz ∧ (∀ (j : Nat) (c : D), x'.cells[j]? = some c → c.isCell = true ∨ x.cells[j]? = some c) ∧
                ∀ j, j < sz → x'.cells[j]? = if off ≤ j ∧ j < off + m then y.cells[j - off]? else x.cells[j]? := by
              split at hx
              · rename_i hms
                simp only [Option.some.injEq] at hx
                subst hms
                refine ⟨y, hx.symm, c3, fun j c hj => .inl ?_, fun j hj => ?_⟩
                · obtain ⟨u, _, _, h5⟩ := k2 j c hj
                  exact h5
                · have : off = 0 := by omega
                  subst this
                  rw [if_pos (by omega), Nat.sub_zero]
              · simp only [Option.some.injEq] at hx
                have hpl : off + y.cells.length ≤ x.cells.length := by omega
                refine ⟨_, hx.symm, ?_, fun j c hj => ?_, fun j hj => ?_⟩
                · simp only [D.cells] at hpl ⊢
                  rw [putCells_length hpl]
                  exact hxl
                · have hj' : (putCells x.cells off y.cells)[j]? = some c := hj
                  rw [putCells_get hpl] at hj'
                  split at hj'
                  · obtain ⟨u, _, _, h5⟩ := k2 _ c hj'
                    exact .inl h5
                  · exact .inr hj'
                · show (putCells x.cells off y.cells)[j]? = _
                  rw [putCells_get hpl, c3]
            subst hx'
            have hset : ∀ z ∈ xs.set i x', z.cells.length = sz := fun z hz => by
              rcases List.mem_or_eq_of_mem_set hz with h2 | h2
              · exact m6 z h2
              · rw [h2]; exact hxl'
            have hstep := step_set (w' := w.setCells b (i * sz + off) v.cells.toList) (r' := some (b, cap)) (o' := .arr sz (xs.set i x') wm) H1 ho p2 t1 t2 t3 (by rw [setCells_size]; exact Nat.le_refl _)
              (fun k _ hk => setCells_other b _ _ w k fun e => hk cap (by rw [e])) (.inl rfl)
              (fun j u b' c' hbc hmu hcell => by
                simp only [Option.some.injEq, Prod.mk.injEq] at hbc
                obtain ⟨rfl, rfl⟩ := hbc
                simp only [Obj.mutAt, Nat.not_le] at hmu
                have : wm * sz ≤ i * sz := Nat.mul_le_mul_right _ c2
                rw [cell_of_heap c5, hg, if_neg (by omega)]
                rwa [cell_of_heap m1] at hcell)
              (fun _ j hj => hj) ⟨rfl, by simp, fun _ => rfl⟩
              (fun hf he => ⟨by simpa using hwm, cur', e, fz, c5, by rw [hcur', m2], by simpa using m3, m4, m5, hset, by rw [hcur']; exact unfrozen_setCells m7, fun j z hj => by
                obtain ⟨x2, e1, e2⟩ := flat_inv hset m5 hj
                have hjm : j % sz < sz := Nat.mod_lt _ m5
                have hjd : sz * (j / sz) + j % sz = j := Nat.div_add_mod j sz
                rw [Nat.mul_comm] at hjd
                rw [hg]
                by_cases hji : j / sz = i
                · subst hji
                  rw [List.getElem?_set_self hil] at e1
                  cases e1
                  rw [hxe _ hjm] at e2
                  split at e2
                  · rename_i hin
                    rw [if_pos (by omega), show j - (j / sz * sz + off) = j % sz - off by omega]
                    obtain ⟨u, f1, f2, f3⟩ := k2 _ z e2
                    exact ⟨u, f1, f2.mono hf.imm, f3⟩
                  · rename_i hin
                    rw [if_neg (by omega)]
                    obtain ⟨u, f1, f2, f3⟩ := m8 _ z (flat_get m6 hxi e2)
                    rw [hjd] at f1
                    exact ⟨u, f1, f2.mono hf.imm, f3⟩
                · rw [List.getElem?_set_ne (fun e => hji e.symm)] at e1
                  have hne : ¬ (i * sz + off ≤ j ∧ j < i * sz + off + m) := by
                    rcases Nat.lt_or_ge (j / sz) i with h2 | h2
                    · have : (j / sz + 1) * sz ≤ i * sz := Nat.mul_le_mul_right _ h2
                      rw [Nat.add_mul] at this
                      omega
                    · have : (i + 1) * sz ≤ j / sz * sz := Nat.mul_le_mul_right _ (by omega)
                      rw [Nat.add_mul] at this
                      omega
                  rw [if_neg hne]
                  obtain ⟨u, f1, f2, f3⟩ := m8 _ z (flat_get m6 e1 e2)
                  rw [hjd] at f1
                  exact ⟨u, f1, f2.mono hf.imm, f3⟩⟩)
            rw [set_self p2] at hstep
            exact ⟨_, hr, st.trans H ⟨hstep.1, hstep.2.1, hstep.2.2⟩⟩
          · cases hx
        · cases hx
      · cases hx
    · cases hx
  · cases hx

/-! ### conversions that make memory -/

/-- A new own list in a new block, however it came. -/
theorem new_arr_gen (H : HRel X ρ h w) (hos : w'.os = w.os) (htape : w'.tape = w.tape) (hout : w'.output = w.output) (hsize : w.heap.size ≤ w'.heap.size) (hblk : ∀ b, b < w.heap.size → w'.heap[b]? = w.heap[b]?)
    {us : Array Value} {xs : List D} {sz cap : Nat} {e : TypeId} {fz : Nat × Nat} (hnew : w'.heap[w.heap.size]? = some (.cells us e fz)) (hunf : Unfrozen w' w.heap.size us.size)
    (hsz : 0 < sz) (hus : us.size = cap * sz) (hle : xs.length ≤ cap) (hcap : cap ≤ maxLen) (hx : ∀ x ∈ xs, x.cells.length = sz)
    (hc : ∀ (j : Nat) (x : D), (flat xs)[j]? = some x → ∃ u, us[j]? = some u ∧ Rep (Mut X ρ h) w u x ∧ x.isCell = true) :
    Stp X ρ h w (ρ ++ [some (w.heap.size, cap)]) (h ++ [.arr sz xs 0]) w' ∧
    VRel X (ρ ++ [some (w.heap.size, cap)]) (h ++ [.arr sz xs 0]) w' (.slice (some ⟨w.heap.size, 0, none⟩) xs.length cap) (.arr h.length xs.length) := by
  obtain ⟨h1, h2, h3⟩ := step_push (w' := w') H (.arr sz xs 0) (some (w.heap.size, cap)) hos htape hout hsize hblk (fun b c e => by cases e; exact Nat.le_refl _)
    fun hf he => ⟨Nat.zero_le _, us, e, fz, hnew, hus, hle, hcap, hsz, hx, hunf, fun j x hj => by
      obtain ⟨u, k1, k2, k3⟩ := hc j x hj
      exact ⟨u, k1, k2.mono hf.imm, k3⟩⟩
  refine ⟨⟨h1, h2, h3⟩, ⟨_, _, _, rfl⟩, sz, xs, 0, some (w.heap.size, cap), by simp, ?_, Nat.le_refl _, fun _ => rfl⟩
  rw [← H.len]
  simp

theorem freeze_other (w : World) (a : Addr) (n b : Nat) (hn : n ≠ 0) (hb : a.block ≠ b) : (w.freeze a n).heap[b]? = w.heap[b]? := by
  unfold World.freeze
  rw [if_neg hn]
  simp only [Array.getElem?_modify]
  rw [if_neg hb]

theorem freeze_at (w : World) (a : Addr) (n : Nat) (hn : n ≠ 0) {us : Array Value} {e : TypeId} (hb : w.heap[a.block]? = some (.cells us e (0, 0))) : (w.freeze a n).heap[a.block]? = some (.cells us e (a.off, a.off + n)) := by
  unfold World.freeze
  rw [if_neg hn]
  simp only [Array.getElem?_modify]
  rw [if_pos trivial, hb]
  rfl

theorem freeze_rest (w : World) (a : Addr) (n : Nat) : (w.freeze a n).os = w.os ∧ (w.freeze a n).tape = w.tape ∧ (w.freeze a n).output = w.output ∧ (w.freeze a n).heap.size = w.heap.size := by
  unfold World.freeze
  split
  · exact ⟨rfl, rfl, rfl, rfl⟩
  · exact ⟨rfl, rfl, rfl, by simp⟩

theorem convV_sound {src dst : TypeId} {A x : V} {v : Value} (hx : convV P h src dst A = some (x, h')) (H : HRel X ρ h w) (hv : VRel X ρ h w v A) :
    ∃ u ρ' w', (convert src dst v).run P w = .ok u w' ∧ Stp X ρ h w ρ' h' w' ∧ VRel X ρ' h' w' u x := by
  unfold convV at hx
  split at hx
  · rename_i e s hs hd
    cases hv
    split at hx
    · rename_i he hsz
      split at hx
      · rename_i hlt
        simp only [Option.some.injEq, Prod.mk.injEq] at hx; obtain ⟨rfl, rfl⟩ := hx
        have hcut : ∃ cap, (Question.appendCap s.size 0 e).cut (w.tape w.drawn (.appendCap s.size 0 e)) = cap ∧ s.size ≤ cap ∧ cap ≤ maxLen :=
          ⟨_, rfl, grownCap_ge w s.size 0 e, grownCap_le_maxLen w s.size 0 e (by simp only [maxLen]; omega)⟩
        obtain ⟨cap, hcap, hc1, hc2⟩ := hcut
        generalize husd : (s.data.map fun b => Value.int .u8 b.toNat) ++ Array.replicate (cap - s.size) (.int .u8 0) = us
        have hus : us.size = cap * 1 := by
          have : s.data.size = s.size := rfl
          rw [← husd]
          simp only [Array.size_append, Array.size_map, Array.size_replicate, this]; omega
        have hlen : (s.data.toList.map byteD).length = s.size := by simp
        have hone : ∀ y ∈ s.data.toList.map byteD, y.cells.length = 1 := fun y hy => by simp at hy; obtain ⟨b, _, rfl⟩ := hy; rfl
        have hcells : ∀ (j : Nat) (c : D), (flat (s.data.toList.map byteD))[j]? = some c → ∃ u, us[j]? = some u ∧ Rep (Mut X ρ h) w u c ∧ c.isCell = true := fun j c hj => by
          rw [bytes_cells] at hj
          have hjl := lt_of_getElem? hj
          simp only [List.getElem?_map, Option.map_eq_some_iff] at hj
          obtain ⟨b, hb, rfl⟩ := hj
          refine ⟨.int .u8 b.toNat, ?_, .int _ _, rfl⟩
          rw [← husd]
          have hj2 : j < s.data.size := by simpa using hjl
          rw [Array.getElem?_append_left (by simpa using hj2)]
          simp only [Array.getElem?_map]
          have : s.data[j]? = some b := by simpa using hb
          rw [this]; rfl
        have hblk : (w.drew.alloc (.cells us e)).heap[w.heap.size]? = some (.cells us e (0, 0)) := heap_alloc_new w.drew _
        have hshape : (w.drew.alloc (.cells us e)).shape? w.heap.size = some (e, us.size) := by unfold World.shape?; rw [hblk]
        obtain ⟨f1, f2, f3, f4⟩ := freeze_rest (w.drew.alloc (.cells us e)) ⟨w.heap.size, us.size, none⟩ 1
        have f5 := freeze_at (w.drew.alloc (.cells us e)) ⟨w.heap.size, us.size, none⟩ 1 (by omega) hblk
        have hrun : (convert src dst (.string s)).run P w = .ok (.slice (some ⟨w.heap.size, 0, none⟩) s.size cap) ((w.drew.alloc (.cells us e)).freeze ⟨w.heap.size, us.size, none⟩ 1) := by
          have hnf : (Question.appendCap s.size 0 e).forced = false := rfl
          simp only [convert, Sem.run_bind, run_underlying hs, run_underlying hd, Result.andThen_ok, run_underlying he, Conv.stringToBytes, run_choose, hnf, Bool.false_eq_true, if_false, hcap, newRow, run_newObj, Sem.run_pure,
            markStringish, run_shape, husd]
          have hshape' : World.shape? { heap := w.heap.push (.cells us e), tape := w.tape, drawn := w.drawn + 1, os := w.os, output := w.output } w.heap.size = some (e, us.size) := hshape
          rw [hshape']
          simp only [run_freeze, Result.andThen_ok]
          rfl
        obtain ⟨n1, n2⟩ := new_arr_gen (w' := (w.drew.alloc (.cells us e)).freeze ⟨w.heap.size, us.size, none⟩ 1) H f1 f2 f3
          (by rw [f4]; simp) (fun b hb => by rw [freeze_other _ _ _ _ (by omega) (by simp; omega)]; exact heap_alloc_old w.drew _ b hb)
          (us := us) (xs := s.data.toList.map byteD) (sz := 1) (cap := cap) (e := e) (fz := (us.size, us.size + 1)) f5
          (fun j hj => by
            unfold World.frozen?
            rw [f5]
            simp
            omega) (by omega) hus (by omega) hc2 hone hcells
        rw [hlen] at n2
        exact ⟨_, _, _, hrun, n1, n2⟩
      · cases hx
    · cases hx
  · simp only [Option.map_eq_some_iff] at hx
    obtain ⟨x', hx, e⟩ := hx
    simp only [Prod.mk.injEq] at e; obtain ⟨rfl, rfl⟩ := e
    obtain ⟨u, y, hr, rfl, hrep⟩ := readConvV_sound (P := P) hx H hv
    exact ⟨u, ρ, w, hr, Stp.refl H, hrep⟩

end
end Go.Am
