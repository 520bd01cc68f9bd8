/- append; stores; a string's bytes as a new list. -/
import Derived.Test.YtekemfffaedmhaaAmMem2
set_option linter.all false
namespace Go.Am
section
variable {X : Nat → Nat → Prop} {ρ ρ' ρ'' : Places} {h h' h'' : List Obj} {w w' w'' : World} {P : Program}

/-- append, there is room. -/
theorem run_append_fits {ts tx e : TypeId} {i : TypeInfo} {ty : TypeId} {base : Option Addr} {n cap m : Nat} {v : Value} {news : List Value} (ht : P.underlying ts = some (.slice e)) (hi : P.info? e = some i)
    (hx : ∃ d, P.underlying tx = some d ∧ ∀ k, d ≠ .int k) (hlen : ∀ w0 : World, (Builtin.lenOf v).run P w0 = .ok m w0) (hfirst : (Builtin.firstCells i.size m v).run P w = .ok news.toArray w) (hle : n + m ≤ cap)
    (hst : ∀ a, base = some a → (storeCells (a.add (n * i.size)) news).run P w = .ok () w') (hnone : base = none → w' = w) :
    (Builtin.append_ #[ts, tx] ty #[.slice base n cap, v]).run P w = .ok (.slice base (n + m) cap) w' := by
  obtain ⟨d, hd, hni⟩ := hx
  cases base with
  | none =>
    have := hnone rfl
    subst this
    simp [Builtin.append_, run_underlying ht, run_underlying hd, sizeOf, typeInfo, hi, hlen, hle, hfirst]
  | some a =>
    have := hst a rfl
    simp [Builtin.append_, run_underlying ht, run_underlying hd, sizeOf, typeInfo, hi, hlen, hle, hfirst, this]

/-- append, it grows. -/
theorem run_append_grows {ts tx e : TypeId} {i : TypeInfo} {z : Value} {ty : TypeId} {base : Option Addr} {n cap m : Nat} {v : Value} {olds news : List Value} (ht : P.underlying ts = some (.slice e)) (hi : P.info? e = some i) (hz0 : i.zero = some z)
    (hx : ∃ d, P.underlying tx = some d ∧ ∀ k, d ≠ .int k) (hlen : ∀ w0 : World, (Builtin.lenOf v).run P w0 = .ok m w0) (hfirst : (Builtin.firstCells i.size m v).run P w.drew = .ok news.toArray w.drew)
    (hold : (Builtin.firstCells i.size n (.slice base n cap)).run P w.drew = .ok olds.toArray w.drew) (hgt : cap < n + m) (hbd : n + m < 2147483648) (hby : i.bytes ≤ 65536) :
    (Builtin.append_ #[ts, tx] ty #[.slice base n cap, v]).run P w =
      .ok (.slice (some ⟨w.heap.size, 0, none⟩) (n + m) (grownCap w (n + m) cap e)) (w.drew.alloc (.cells (olds.toArray ++ news.toArray ++ Builtin.zeroCells z.cells (grownCap w (n + m) cap e - (n + m))) e)) := by
  obtain ⟨d, hd, hni⟩ := hx
  have h1 : ¬ (n + m ≤ cap) := by omega
  have h2 : ¬ (9223372036854775807 < ((n : Int) + (m : Int))) := by omega
  have hfit : Builtin.nextslicecap (n + m) cap * i.bytes ≤ 281474976710656 := growslice_fits hgt (by
    have : (n + m) * i.bytes ≤ 2147483648 * 65536 := Nat.mul_le_mul (by omega) hby
    omega)
  have h3 : ¬ (281474976710656 < Builtin.nextslicecap (n + m) cap * i.bytes) := by omega
  simp [Builtin.append_, run_underlying ht, run_underlying hd, sizeOf, typeInfo, zeroValue, hi, hz0, hlen, h1, h2, h3, Question.forced, hfirst, hold, newRow, grownCap]
  congr 2
  apply Array.ext'
  simp [List.append_assoc]

theorem setCells_heap (b : Nat) : ∀ (vs : List Value) (o : Nat) (w : World) (cur : Array Value) (e : TypeId) (fz : Nat × Nat), w.heap[b]? = some (.cells cur e fz) → o + vs.length ≤ cur.size →
    ∃ cur', (w.setCells b o vs).heap[b]? = some (.cells cur' e fz) ∧ cur'.toList = putCells cur.toList o vs
  | [], o, w, cur, e, fz, hb, _ => ⟨cur, hb, by simp [putCells]⟩
  | v :: vs, o, w, cur, e, fz, hb, hle => by
    simp only [List.length_cons] at hle
    have hb1 : (w.setCell ⟨b, o, none⟩ v).heap[b]? = some (.cells (cur.setIfInBounds o v) e fz) := by
      simp [World.setCell, Array.getElem?_modify, hb]
    obtain ⟨cur', e1, e2⟩ := setCells_heap b vs (o + 1) _ _ e fz hb1 (by simp; omega)
    refine ⟨cur', e1, ?_⟩
    rw [e2]
    apply List.ext_getElem?
    intro i
    rw [putCells_get (by simp; omega), putCells_get (by simp; omega)]
    simp only [List.length_cons, Array.toList_setIfInBounds]
    rcases Nat.lt_trichotomy i o with h1 | h1 | h1
    · rw [if_neg (by omega), if_neg (by omega), List.getElem?_set_ne (by omega)]
    · subst h1
      rw [if_neg (by omega), if_pos (by omega), List.getElem?_set_self (by simp; omega)]
      simp
    · by_cases h2 : i < o + (vs.length + 1)
      · rw [if_pos (by omega), if_pos (by omega), show i - o = (i - (o + 1)) + 1 by omega, List.getElem?_cons_succ]
      · rw [if_neg (by omega), if_neg (by omega), List.getElem?_set_ne (by omega)]

theorem setCells_other (b : Nat) : ∀ (vs : List Value) (o : Nat) (w : World) (k : Nat), k ≠ b → (w.setCells b o vs).heap[k]? = w.heap[k]?
  | [], _, _, _, _ => rfl
  | v :: vs, o, w, k, hk => by
    rw [World.setCells, setCells_other b vs (o + 1) _ k hk]
    simp only [World.setCell, Array.getElem?_modify]
    rw [if_neg (by simpa using fun e => hk e.symm)]

theorem setCells_size (b : Nat) : ∀ (vs : List Value) (o : Nat) (w : World), (w.setCells b o vs).heap.size = w.heap.size
  | [], _, _ => rfl
  | v :: vs, o, w => by rw [World.setCells, setCells_size b vs]; simp

theorem setCells_rest (b : Nat) : ∀ (vs : List Value) (o : Nat) (w : World), (w.setCells b o vs).os = w.os ∧ (w.setCells b o vs).tape = w.tape ∧ (w.setCells b o vs).output = w.output
  | [], _, _ => ⟨rfl, rfl, rfl⟩
  | v :: vs, o, w => by rw [World.setCells]; exact setCells_rest b vs (o + 1) _

/-- Cells that may be written are written. -/
theorem run_put {b o : Nat} {vs : List Value} {cur : Array Value} {e : TypeId} {fz : Nat × Nat} (hb : w.heap[b]? = some (.cells cur e fz)) (hle : o + vs.length ≤ cur.size) (hu : Unfrozen w b cur.size) (h1 : ∀ v ∈ vs, v.oneCell' = true) :
    (storeCells ⟨b, o, none⟩ vs).run P w = .ok () (w.setCells b o vs) := by
  have := run_storeCells_cells (P := P) b o vs 0 w (fun j hj => by
    rw [cell_of_heap hb, Array.getElem?_eq_getElem (by omega)]; rfl) (fun j hj => hu _ (by omega)) h1
  simpa using this

theorem unfrozen_setCells {b o n : Nat} {vs : List Value} (hu : Unfrozen w b n) : Unfrozen (w.setCells b o vs) b n := fun j hj => by
  rw [World.frozen?_setCells]; exact hu j hj

/-- What an own list holds, and where. -/
def OwnCells (X : Nat → Nat → Prop) (ρ : Places) (h : List Obj) (w : World) (us : Array Value) (xs : List D) : Prop :=
  ∀ (j : Nat) (x : D), (flat xs)[j]? = some x → ∃ u, us[j]? = some u ∧ Rep (Mut X ρ h) w u x ∧ x.isCell = true

theorem own_append {olds news : List Value} {rest : Array Value} {xs ys : List D} {sz : Nat} (hx : ∀ x ∈ xs, x.cells.length = sz) (hol : olds.length = xs.length * sz)
    (ho : ∀ (j : Nat) (x : D), (flat xs)[j]? = some x → ∃ u, olds[j]? = some u ∧ Rep (Mut X ρ h) w u x ∧ x.isCell = true)
    (hn : ∀ (j : Nat) (x : D), (flat ys)[j]? = some x → ∃ u, news[j]? = some u ∧ Rep (Mut X ρ h) w u x ∧ x.isCell = true) :
    OwnCells X ρ h w (olds.toArray ++ news.toArray ++ rest) (xs ++ ys) := fun j x hj => by
  have hfl := flat_length hx
  rw [flat_append] at hj
  rw [Array.append_assoc]
  rcases Nat.lt_or_ge j (flat xs).length with hlt | hge
  · rw [List.getElem?_append_left hlt] at hj
    obtain ⟨u, h1, h2, h3⟩ := ho j x hj
    refine ⟨u, ?_, h2, h3⟩
    rw [Array.getElem?_append_left (by simp; omega)]
    simpa using h1
  · rw [List.getElem?_append_right hge] at hj
    obtain ⟨u, h1, h2, h3⟩ := hn _ x hj
    refine ⟨u, ?_, h2, h3⟩
    have hl := lt_of_getElem? h1
    rw [Array.getElem?_append_right (by simp; omega), Array.getElem?_append_left (by simp; omega)]
    simp only [List.size_toArray, hol, ← hfl]
    simpa using h1

theorem appendV_sound {ts tx : TypeId} {S Y x : V} {ty : TypeId} {s v : Value} (hx : appendV P h ts tx S Y = some (x, h')) (H : HRel X ρ h w) (hs : VRel X ρ h w s S) (hv : VRel X ρ h w v Y) :
    ∃ u ρ' w', (Builtin.append_ #[ts, tx] ty #[s, v]).run P w = .ok u w' ∧ Stp X ρ h w ρ' h' w' ∧ VRel X ρ' h' w' u x := by
  unfold appendV at hx
  split at hx
  · rename_i e ht
    split at hx
    · rename_i i ys hi hsrc
      split at hx
      · rename_i hcond
        obtain ⟨hz, hsz, hby⟩ := hcond
        simp only [Option.map_eq_some_iff] at hz
        obtain ⟨z, hz, hzsz⟩ := hz
        have hzc : ∀ k, (Builtin.zeroCells z.cells k).size = k * i.size := fun k => by rw [size_zeroCells, hzsz]
        split at hx
        · -- onto nil
          split at hx
          · rename_i hc
            obtain ⟨hlt, hall⟩ := hc
            simp only [Option.some.injEq, Prod.mk.injEq] at hx; obtain ⟨rfl, rfl⟩ := hx
            have hcells := allSize_spec hall
            have hs' : s = .slice none 0 0 := hs
            subst hs'
            obtain ⟨news, k1, k2, k3, k4, k5⟩ := source_sound hsrc H hv hcells
            rcases Nat.eq_zero_or_pos ys.length with h0 | h0
            · have : ys = [] := List.eq_nil_of_length_eq_zero h0
              subst this
              obtain ⟨n1, n2⟩ := new_nil H i.size
              exact ⟨.slice none 0 0, _, w, run_append_fits ht hi k1 k2 (k3 w fun _ => rfl) (by simp) (fun a e => by cases e) (fun _ => rfl), n1, n2⟩
            · have hr := run_append_grows (P := P) (w := w) (ty := ty) (base := none) (n := 0) (cap := 0) (m := ys.length) (v := v) (olds := []) (news := news) ht hi hz k1 k2 (k3 w.drew fun _ => rfl) (by simp [Builtin.firstCells]) (by omega) (by omega) hby
              simp only [Nat.zero_add] at hr
              have hg := grownCap_ge w ys.length 0 e
              have hgm := grownCap_le_maxLen w ys.length 0 e (by simp only [maxLen]; omega)
              have hown := own_append (ρ := ρ) (h := h) (w := w) (olds := []) (news := news) (rest := Builtin.zeroCells z.cells (grownCap w ys.length 0 e - ys.length)) (xs := []) (ys := ys) (sz := i.size) (by simp) (by simp) (fun j x hj => by simp [flat] at hj) k5
              obtain ⟨n1, n2⟩ := new_arr (w' := w.drew) H rfl rfl rfl rfl e (us := ([] : List Value).toArray ++ news.toArray ++ Builtin.zeroCells z.cells (grownCap w ys.length 0 e - ys.length)) (xs := ys) (sz := i.size) (cap := grownCap w ys.length 0 e) hsz
                (by simp only [Array.size_append, List.size_toArray, hzc, k4, List.length_nil, Nat.zero_add, ← Nat.add_mul]; congr 1; omega) hg hgm hcells hown
              exact ⟨_, _, _, hr, n1, n2⟩
          · cases hx
        · rename_i id n
          split at hx
          · rename_i sz xs wm ho
            split at hx
            · rename_i hc
              obtain ⟨rfl, rfl, hbd, hall⟩ := hc
              simp only [Option.some.injEq, Prod.mk.injEq] at hx; obtain ⟨rfl, rfl⟩ := hx
              have hycells := allSize_spec hall
              obtain ⟨news, k1, k2, k3, k4, k5⟩ := source_sound hsrc H hv hycells
              obtain ⟨_, sz2, xs2, wm2, r, q1, q2, _, q4⟩ := hs
              rw [ho] at q1; cases q1
              have hav := q4 rfl
              obtain ⟨r', q5, q6⟩ := H.obj id _ ho
              rw [q2] at q5; cases q5
              obtain ⟨hwm, q7⟩ := q6
              -- what the block holds
              obtain ⟨base, cap, olds, rfl, hol, hlc, hcapm, hxc, hholds, hownold⟩ : ∃ (base : Option Addr) (cap : Nat) (olds : List Value), s = .slice base xs.length cap ∧ olds.length = xs.length * i.size ∧ xs.length ≤ cap ∧ cap ≤ maxLen ∧
                  (∀ x ∈ xs, x.cells.length = i.size) ∧ (Builtin.firstCells i.size xs.length (.slice base xs.length cap)).run P w.drew = .ok olds.toArray w.drew ∧
                  ∀ (j : Nat) (x : D), (flat xs)[j]? = some x → ∃ u, olds[j]? = some u ∧ Rep (Mut X ρ h) w u x ∧ x.isCell = true := by
                cases r with
                | none =>
                  subst q7
                  obtain ⟨_, a, rfl⟩ := hav
                  refine ⟨a, 0, [], rfl, by simp, Nat.le_refl _, Nat.zero_le _, by simp, ?_, fun j x hj => by simp [flat] at hj⟩
                  cases a with
                  | none => simp [Builtin.firstCells]
                  | some a => simpa using run_firstCells_some (P := P) w.drew i.size 0 a 0 0 [] (by simp) (by simp)
                | some p =>
                  obtain ⟨b, cap⟩ := p
                  obtain ⟨cur, ce, fz, m1, m2, m3, m4, m5, m6, m7, m8⟩ := q7
                  simp only [ArrVal] at hav
                  have hle : xs.length * i.size ≤ cur.size := by rw [m2]; exact Nat.mul_le_mul_right _ m3
                  refine ⟨_, cap, cur.toList.take (xs.length * i.size), hav, by simp; omega, m3, m4, m6, ?_, fun j x hj => ?_⟩
                  · exact run_firstCells_some (P := P) w.drew i.size xs.length ⟨b, 0, none⟩ xs.length cap _ (by simp; omega) fun j u hj => by
                      rw [Addr.add_lit, World.cell?_drew, cell_of_heap m1, Nat.zero_add]
                      rw [List.getElem?_take] at hj
                      split at hj
                      · simpa using hj
                      · cases hj
                  · obtain ⟨u, e1, e2, e3⟩ := m8 j x hj
                    have hjl := lt_of_getElem? hj
                    rw [flat_length m6] at hjl
                    exact ⟨u, by rw [List.getElem?_take, if_pos hjl]; simpa using e1, e2, e3⟩
              have hxyc : ∀ x ∈ xs ++ ys, x.cells.length = i.size := fun x hx => by
                rcases List.mem_append.1 hx with hx | hx
                · exact hxc x hx
                · exact hycells x hx
              by_cases hroom : xs.length + ys.length ≤ cap
              · -- in place
                cases r with
                | none =>
                  subst q7
                  obtain ⟨_, a, hav⟩ := hav
                  simp only [Value.slice.injEq] at hav
                  obtain ⟨rfl, _, rfl⟩ := hav
                  simp only [List.length_nil, Nat.zero_add, Nat.le_zero_eq] at hroom
                  have : ys = [] := List.eq_nil_of_length_eq_zero hroom
                  subst this
                  have hnews : news = [] := List.eq_nil_of_length_eq_zero (by simpa using k4)
                  subst hnews
                  refine ⟨.slice base 0 0, ρ, w, run_append_fits (n := 0) ht hi k1 k2 (k3 w fun _ => rfl) (by simp) (fun a e => rfl) (fun _ => rfl), ?_, ?_⟩
                  · rw [List.append_nil, set_self ho]; exact Stp.refl H
                  · rw [List.append_nil, set_self ho]
                    exact ⟨⟨_, _, _, rfl⟩, _, _, _, none, ho, q2, Nat.le_refl _, fun _ => ⟨rfl, base, rfl⟩⟩
                | some p =>
                  obtain ⟨b, cap'⟩ := p
                  obtain ⟨cur, ce, fz, m1, m2, m3, m4, m5, m6, m7, m8⟩ := q7
                  simp only [ArrVal, Value.slice.injEq] at hav
                  obtain ⟨rfl, _, rfl⟩ := hav
                  have hnl : xs.length * i.size + news.length ≤ cur.size := by
                    rw [k4, m2, ← Nat.add_mul]; exact Nat.mul_le_mul_right _ hroom
                  have hone : ∀ u ∈ news, u.oneCell' = true := fun u hu => by
                    obtain ⟨j, hj⟩ := List.getElem?_of_mem hu
                    have hjl := lt_of_getElem? hj
                    have hfl := flat_length hycells
                    obtain ⟨u', e1, e2, e3⟩ := k5 j (flat ys)[j] (by simp [show j < (flat ys).length by omega])
                    rw [hj] at e1; cases e1
                    exact e2.one e3
                  have hst := run_put (P := P) (o := xs.length * i.size) (vs := news) m1 hnl m7 hone
                  obtain ⟨cur', c1, c2⟩ := setCells_heap b news (xs.length * i.size) w cur ce fz m1 hnl
                  have hcur' : cur'.size = cur.size := by
                    have := congrArg List.length c2
                    rw [putCells_length (by simpa using hnl)] at this
                    simpa using this
                  have hget : ∀ j, cur'[j]? = if xs.length * i.size ≤ j ∧ j < xs.length * i.size + news.length then news[j - xs.length * i.size]? else cur[j]? := fun j => by
                    have : cur'[j]? = cur'.toList[j]? := by simp
                    rw [this, c2, putCells_get (by simpa using hnl)]
                    simp
                  obtain ⟨t1, t2, t3⟩ := setCells_rest b news (xs.length * i.size) w
                  have hstep := step_set (w' := w.setCells b (xs.length * i.size) news) (r' := some (b, cap)) (o' := .arr i.size (xs ++ ys) wm) H ho q2 t1 t2 t3 (by rw [setCells_size]; exact Nat.le_refl _)
                    (fun k _ hk => setCells_other b news _ w k fun e => hk cap (by rw [e])) (.inl rfl)
                    (fun j u b' c' hbc hmu hcell => by
                      simp only [Option.some.injEq, Prod.mk.injEq] at hbc
                      obtain ⟨rfl, rfl⟩ := hbc
                      simp only [Obj.mutAt, Nat.not_le] at hmu
                      rw [cell_of_heap c1, hget, if_neg (by have := Nat.mul_le_mul_right i.size hwm; omega)]
                      rwa [cell_of_heap m1] at hcell)
                    (fun _ j hj => hj) ⟨rfl, by simp, fun _ => rfl⟩
                    (fun hf he => ⟨by simp; omega, cur', ce, fz, c1, by rw [hcur', m2], by simpa using hroom, m4, m5, hxyc, by rw [hcur']; exact unfrozen_setCells m7, fun j x hj => by
                      have hfl := flat_length m6
                      rw [flat_append] at hj
                      rw [hget]
                      rcases Nat.lt_or_ge j (flat xs).length with hlt | hge
                      · rw [List.getElem?_append_left hlt] at hj
                        obtain ⟨u, e1, e2, e3⟩ := m8 j x hj
                        exact ⟨u, by rw [if_neg (by omega)]; exact e1, e2.mono hf.imm, e3⟩
                      · rw [List.getElem?_append_right hge] at hj
                        obtain ⟨u, e1, e2, e3⟩ := k5 _ x hj
                        have := lt_of_getElem? e1
                        exact ⟨u, by rw [if_pos (by omega), ← hfl]; exact e1, e2.mono hf.imm, e3⟩⟩)
                  rw [set_self q2] at hstep
                  obtain ⟨g1, g2, g3⟩ := hstep
                  refine ⟨_, ρ, _, run_append_fits ht hi k1 k2 (k3 w fun _ => rfl) hroom (fun a e => by cases e; rw [Addr.add_lit, Nat.zero_add]; exact hst) (fun e => by cases e), ⟨g1, g2, g3⟩, ⟨_, _, _, rfl⟩, i.size, xs ++ ys, wm, some (b, cap), by
                    rw [List.getElem?_set_self (lt_of_getElem? ho)], q2, by simp, fun _ => rfl⟩
              · -- it grows
                have hgt : cap < xs.length + ys.length := by omega
                have hr := run_append_grows (P := P) (w := w) (ty := ty) (base := base) (n := xs.length) (cap := cap) (m := ys.length) (v := v) (olds := olds) (news := news) ht hi hz k1 k2 (k3 w.drew fun _ => rfl) hholds hgt hbd hby
                have hg := grownCap_ge w (xs.length + ys.length) cap e
                have hgm := grownCap_le_maxLen w (xs.length + ys.length) cap e (by simp only [maxLen]; omega)
                generalize hgc : grownCap w (xs.length + ys.length) cap e = gc at hr hg hgm
                have hown := own_append (ρ := ρ) (h := h) (w := w) (olds := olds) (news := news) (rest := Builtin.zeroCells z.cells (gc - (xs.length + ys.length))) (xs := xs) (ys := ys) (sz := i.size) hxc hol hownold k5
                have hus : (olds.toArray ++ news.toArray ++ Builtin.zeroCells z.cells (gc - (xs.length + ys.length))).size = gc * i.size := by
                  simp only [Array.size_append, List.size_toArray, hzc, k4, hol, ← Nat.add_mul]; congr 1; omega
                generalize olds.toArray ++ news.toArray ++ Builtin.zeroCells z.cells (gc - (xs.length + ys.length)) = us at hr hown hus
                have hstep := step_set (w' := w.drew.alloc (.cells us e)) (r' := some (w.heap.size, gc)) (o' := .arr i.size (xs ++ ys) wm) H ho q2 rfl rfl rfl (by simp)
                  (fun k hk _ => heap_alloc_old w.drew _ k hk) (.inr ⟨gc, rfl⟩)
                  (fun j u b' c' hbc _ hcell => by
                    have hb := World.block_lt_of_cell? w ⟨b', j, none⟩ hcell
                    rw [World.cell?_alloc_lt w.drew _ _ hb]
                    exact hcell)
                  (fun _ j hj => hj) ⟨rfl, by simp, fun e => by rw [List.length_append] at e; omega⟩
                  (fun hf he => ⟨by simp; omega, us, e, (0, 0), heap_alloc_new w.drew _, hus, by simpa using hg, hgm, hsz, hxyc, unfrozen_new (w := w.drew) us e, fun j x hj => by
                    obtain ⟨u, e1, e2, e3⟩ := hown j x hj
                    exact ⟨u, e1, e2.mono hf.imm, e3⟩⟩)
                obtain ⟨g1, g2, g3⟩ := hstep
                refine ⟨_, _, _, hr, ⟨g1, g2, g3⟩, ⟨_, _, _, rfl⟩, i.size, xs ++ ys, wm, some (w.heap.size, gc), by
                  rw [List.getElem?_set_self (lt_of_getElem? ho)], by rw [List.getElem?_set_self (lt_of_getElem? q2)], by simp, fun _ => by simp [ArrVal]⟩
            · cases hx
          · cases hx
        · cases hx
      · cases hx
    · cases hx
  · cases hx

end
end Go.Am
