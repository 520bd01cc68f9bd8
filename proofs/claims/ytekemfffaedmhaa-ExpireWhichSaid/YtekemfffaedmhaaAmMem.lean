/- Operations that make memory, and those that write it. -/
import Derived.Test.YtekemfffaedmhaaAmOps3
import Derived.Laws.MakeOwn
import Derived.Laws.IdiomCopy
set_option linter.all false
namespace Go.Am
section
variable {X : Nat → Nat → Prop} {ρ ρ' ρ'' : Places} {h h' h'' : List Obj} {w w' w'' : World} {P : Program}

theorem putCells_get {α : Type} {cs vs : List α} {off : Nat} (hle : off + vs.length ≤ cs.length) (i : Nat) :
    (putCells cs off vs)[i]? = if off ≤ i ∧ i < off + vs.length then vs[i - off]? else cs[i]? := by
  unfold putCells
  have e1 : (cs.take off).length = off := by simp; omega
  rcases Nat.lt_or_ge i off with h1 | h1
  · rw [if_neg (by omega), List.append_assoc, List.getElem?_append_left (by omega), List.getElem?_take, if_pos h1]
  · rcases Nat.lt_or_ge i (off + vs.length) with h2 | h2
    · rw [if_pos ⟨h1, h2⟩, List.getElem?_append_left (by simp; omega), List.getElem?_append_right (by omega), e1]
    · rw [if_neg (by omega), List.getElem?_append_right (by simp; omega), List.getElem?_drop]
      congr 1
      simp only [List.length_append, e1]
      omega

theorem putCells_length {α : Type} {cs vs : List α} {off : Nat} (hle : off + vs.length ≤ cs.length) : (putCells cs off vs).length = cs.length := by
  simp [putCells]; omega

theorem CellsRel.put {us us' : List Value} {cs cs' : List V} {off : Nat} (hc : CellsRel X ρ h w us cs) (hc' : CellsRel X ρ h w us' cs') (hle : off + cs'.length ≤ cs.length) :
    CellsRel X ρ h w (putCells us off us') (putCells cs off cs') := by
  have hle' : off + us'.length ≤ us.length := by rw [hc.1, hc'.1]; exact hle
  refine ⟨by rw [putCells_length hle, putCells_length hle', hc.1], fun j c hj => ?_⟩
  rw [putCells_get hle] at hj
  rw [putCells_get hle', hc'.1]
  split at hj
  · rename_i hr
    rw [if_pos hr]
    exact hc'.2 _ c hj
  · rename_i hr
    rw [if_neg hr]
    exact hc.2 _ c hj

theorem foldl_set (off : Nat) : ∀ (vs : List Value) (k : Nat) (cs : Array Value), off + k + vs.length ≤ cs.size →
    ((vs.zipIdx k).foldl (fun (cs : Array Value) (p : Value × Nat) => cs.setIfInBounds (off + p.2) p.1) cs).toList = putCells cs.toList (off + k) vs
  | [], k, cs, _ => by simp [putCells]
  | v :: vs, k, cs, hle => by
    simp only [List.length_cons] at hle
    simp only [List.zipIdx_cons, List.foldl_cons]
    rw [foldl_set off vs (k + 1) _ (by simp; omega)]
    apply List.ext_getElem?
    intro i
    rw [putCells_get (by simp; omega), putCells_get (by simp; omega)]
    simp only [List.length_cons, Array.toList_setIfInBounds]
    rcases Nat.lt_trichotomy i (off + k) with h1 | h1 | h1
    · rw [if_neg (by omega), if_neg (by omega), List.getElem?_set_ne (by omega)]
    · subst h1
      rw [if_neg (by omega), if_pos (by omega), List.getElem?_set_self (by simp; omega)]
      simp
    · by_cases h2 : i < off + k + (vs.length + 1)
      · rw [if_pos (by omega), if_pos (by omega), show i - (off + k) = (i - (off + (k + 1))) + 1 by omega, List.getElem?_cons_succ]
      · rw [if_neg (by omega), if_neg (by omega), List.getElem?_set_ne (by omega)]

theorem fill_sound (place : Nat → Option (Nat × Nat)) : ∀ (vp : List (Nat × V)) (rp : List (Nat × Value)) (cs cs' : List V) (us : Array Value), fillV place cs vp = some cs' → CellsRel X ρ h w us.toList cs →
    rp.length = vp.length → (∀ (j : Nat) (p : Nat × V), vp[j]? = some p → ∃ u, rp[j]? = some (p.1, u) ∧ VRel X ρ h w u p.2) →
    ∃ us', Instr.fill place us rp = some us' ∧ CellsRel X ρ h w us'.toList cs'
  | [], rp, cs, cs', us, hf, hc, hl, _ => by
    simp only [fillV, Option.some.injEq] at hf; subst hf
    have : rp = [] := List.eq_nil_of_length_eq_zero (by simpa using hl)
    subst this
    exact ⟨us, rfl, hc⟩
  | (i, v) :: vp, rp, cs, cs', us, hf, hc, hl, hp => by
    simp only [fillV] at hf
    split at hf
    · rename_i off size hpl
      split at hf
      · rename_i hcond
        obtain ⟨h1, h2, h3⟩ := hcond
        cases rp with
        | nil => simp at hl
        | cons q rp =>
          obtain ⟨u, hu1, hu2⟩ := hp 0 (i, v) (by simp)
          simp only [List.getElem?_cons_zero, Option.some.injEq] at hu1
          subst hu1
          have hcu := hu2.cells h3
          have hsz : u.cells.size = size := by rw [cells_length hu2 h3, h1]
          have hus : off + size ≤ us.size := by have := hc.1; simp only [Array.length_toList] at this; omega
          have hput := foldl_set off u.cells.toList 0 us (by simp only [Array.length_toList]; omega)
          obtain ⟨us', e1, e2⟩ := fill_sound place vp rp _ cs' (u.cells.zipIdx.foldl (fun cs (c, j) => cs.setIfInBounds (off + j) c) us) hf
            (by
              have e3 : (u.cells.zipIdx.foldl (fun (cs : Array Value) (x : Value × Nat) => cs.setIfInBounds (off + x.2) x.1) us).toList = putCells us.toList off u.cells.toList := by
                rw [← Array.foldl_toList, Array.toList_zipIdx]
                simpa using hput
              show CellsRel X ρ h w (u.cells.zipIdx.foldl (fun (cs : Array Value) (x : Value × Nat) => cs.setIfInBounds (off + x.2) x.1) us).toList _
              rw [e3]
              exact hc.put hcu (by omega))
            (by simpa using hl) (fun j p hj => by simpa using hp (j + 1) p (by simpa using hj))
          refine ⟨us', ?_, e2⟩
          simp only [Instr.fill, hpl, hsz]
          rw [if_neg (by simp; omega)]
          exact e1
      · cases hf
    · cases hf

theorem mapM_run {α β : Type} (f : α → Sem β) (g : α → β) : ∀ (l : List α), (∀ x ∈ l, (f x).run P w = .ok (g x) w) → (l.mapM f).run P w = .ok (l.map g) w
  | [], _ => rfl
  | x :: l, hf => by
    simp [List.mapM_cons, hf x (by simp), mapM_run f g l fun y hy => hf y (by simp [hy])]

theorem buildV_sound {t : TypeId} {parts : List (Nat × V)} {x : V} {rp : List (Nat × Value)} (hx : buildV P t parts = some x) (hl : rp.length = parts.length)
    (hp : ∀ (j : Nat) (p : Nat × V), parts[j]? = some p → ∃ u, rp[j]? = some (p.1, u) ∧ VRel X ρ h w u p.2) :
    ∃ u, (Instr.build t rp.toArray).run P w = .ok u w ∧ VRel X ρ h w u x := by
  unfold buildV at hx
  split at hx
  · rename_i z fs hz hs
    split at hx
    · rename_i hok
      simp only [Bool.and_eq_true] at hok
      simp only [Option.map_eq_some_iff] at hx
      obtain ⟨cs, hf, rfl⟩ := hx
      have hc : CellsRel X ρ h w z.cells.toList (z.cells.toList.map constCell) := cellsRel_const _ hok.1
      have hsz : ∀ f ∈ fs.toList, ∃ n, sizeOf? P f.type = some n := fun f hf => by
        have := List.all_eq_true.1 hok.2 f hf
        exact Option.isSome_iff_exists.1 this
      obtain ⟨us', e1, e2⟩ := fill_sound _ _ rp _ _ z.cells hf hc hl hp
      have hm : (fs.mapM fun f => do pure (f.offset, ← sizeOf f.type) : Sem (Array (Nat × Nat))).run P w = .ok (fs.map fun f => (f.offset, (sizeOf? P f.type).getD 0)) w := by
        rw [Array.mapM_eq_mapM_toList, Sem.run_map, mapM_run _ (fun f => (f.offset, (sizeOf? P f.type).getD 0)) _ fun f hf => by
          obtain ⟨n, hn⟩ := hsz f hf
          simp [sizeOf_run hn, hn]]
        simp only [Result.andThen_ok]
        congr 1
        apply Array.ext'
        simp
      have hplace : ∀ l us, Instr.fill (fun (i : Nat) => (fs[i]?).bind fun (f : Field) => (sizeOf? P f.type).map fun s => (f.offset, s)) us l =
          Instr.fill (fun (i : Nat) => (fs.map fun (f : Field) => (f.offset, (sizeOf? P f.type).getD 0))[i]?) us l := by
        have : (fun (i : Nat) => (fs[i]?).bind fun (f : Field) => (sizeOf? P f.type).map fun s => (f.offset, s)) = (fun (i : Nat) => (fs.map fun (f : Field) => (f.offset, (sizeOf? P f.type).getD 0))[i]?) := by
          funext i
          simp only [Array.getElem?_map]
          cases hfi : fs[i]? with
          | none => rfl
          | some f =>
            obtain ⟨n, hn⟩ := hsz f (by simpa using Array.mem_of_getElem? hfi)
            simp [hn]
        intro l us
        rw [this]
      rw [hplace] at e1
      refine ⟨.agg us', ?_, mkAgg_rel e2⟩
      simp only [Instr.build, Sem.run_bind, zeroValue_run hz, Result.andThen_ok, run_underlying hs, hm]
      rw [show Instr.fill _ z.cells rp.toArray.toList = some us' from e1]
      rfl
    · cases hx
  · rename_i z n e hz hs
    split at hx
    · rename_i s hsz
      split at hx
      · rename_i hok
        simp only [Option.map_eq_some_iff] at hx
        obtain ⟨cs, hf, rfl⟩ := hx
        have hc : CellsRel X ρ h w z.cells.toList (z.cells.toList.map constCell) := cellsRel_const _ hok
        obtain ⟨us', e1, e2⟩ := fill_sound _ _ rp _ _ z.cells hf hc hl hp
        refine ⟨.agg us', ?_, mkAgg_rel e2⟩
        simp only [Instr.build, Sem.run_bind, zeroValue_run hz, Result.andThen_ok, run_underlying hs, sizeOf_run hsz]
        rw [show Instr.fill _ z.cells rp.toArray.toList = some us' from e1]
        rfl
      · cases hx
    · cases hx
  · cases hx

/-! ### new objects -/

theorem unfrozen_new (o : Array Value) (e : TypeId) : Unfrozen (w.alloc (.cells o e)) w.heap.size o.size := fun j _ => by simp

/-- A new box. -/
theorem new_box (H : HRel X ρ h w) {us : Array Value} {cs : List V} (e : TypeId) (hc : CellsRel X ρ h w us.toList cs) :
    Stp X ρ h w (ρ ++ [some (w.heap.size, 0)]) (h ++ [.box cs]) (w.alloc (.cells us e)) ∧
    VRel X (ρ ++ [some (w.heap.size, 0)]) (h ++ [.box cs]) (w.alloc (.cells us e)) (.pointer (some ⟨w.heap.size, 0, none⟩)) (.ptr h.length 0) := by
  obtain ⟨h1, h2, h3⟩ := step_push (w' := w.alloc (.cells us e)) H (.box cs) (some (w.heap.size, 0)) rfl rfl rfl (by simp) (fun b hb => heap_alloc_old w _ b hb) (fun b c e => by cases e; exact Nat.le_refl _)
    fun hf he => ⟨w.heap.size, 0, us, e, (0, 0), rfl, heap_alloc_new w _, by simpa using hc.1, unfrozen_new us e, fun j x hj => by
      obtain ⟨u, k1, k2, k3⟩ := hc.2 j x hj
      exact ⟨u, by simpa using k1, k2.mono hf he, k3⟩⟩
  refine ⟨⟨h1, h2, h3⟩, .box cs, w.heap.size, 0, by simp, rfl, ?_, rfl⟩
  rw [← H.len]
  simp

/-- A new own list in a new block. -/
theorem new_arr (H : HRel X ρ h w) (hsame : w'.heap = w.heap) (hos : w'.os = w.os) (htape : w'.tape = w.tape) (hout : w'.output = w.output) {us : Array Value} {xs : List D} {sz cap : Nat} (e : TypeId)
    (hsz : 0 < sz) (hus : us.size = cap * sz) (hle : xs.length ≤ cap) (hcap : cap ≤ maxLen) (hx : ∀ x ∈ xs, x.cells.length = sz)
    (hc : ∀ (j : Nat) (x : D), (flat xs)[j]? = some x → ∃ u, us[j]? = some u ∧ Rep (Mut X ρ h) w u x ∧ x.isCell = true) :
    Stp X ρ h w (ρ ++ [some (w.heap.size, cap)]) (h ++ [.arr sz xs 0]) (w'.alloc (.cells us e)) ∧
    VRel X (ρ ++ [some (w.heap.size, cap)]) (h ++ [.arr sz xs 0]) (w'.alloc (.cells us e)) (.slice (some ⟨w.heap.size, 0, none⟩) xs.length cap) (.arr h.length xs.length) := by
  have hsize : w'.heap.size = w.heap.size := by rw [hsame]
  obtain ⟨h1, h2, h3⟩ := step_push (w' := w'.alloc (.cells us e)) H (.arr sz xs 0) (some (w.heap.size, cap)) hos htape hout (by simp [hsize])
    (fun b hb => by rw [heap_alloc_old w' _ b (by omega), hsame]) (fun b c e => by cases e; exact Nat.le_refl _)
    fun hf he => ⟨Nat.zero_le _, us, e, (0, 0), by rw [← hsize]; exact heap_alloc_new w' _, hus, hle, hcap, hsz, hx, by rw [← hsize]; exact unfrozen_new us e, fun j x hj => by
      obtain ⟨u, k1, k2, k3⟩ := hc j x hj
      exact ⟨u, k1, k2.mono hf.imm, k3⟩⟩
  refine ⟨⟨h1, h2, h3⟩, ⟨_, _, _, rfl⟩, sz, xs, 0, some (w.heap.size, cap), by simp, ?_, Nat.le_refl _, fun _ => rfl⟩
  rw [← H.len]
  simp

/-- A new own list that is nil. -/
theorem new_nil (H : HRel X ρ h w) (sz : Nat) : Stp X ρ h w (ρ ++ [none]) (h ++ [.arr sz [] 0]) w ∧ VRel X (ρ ++ [none]) (h ++ [.arr sz [] 0]) w (.slice none 0 0) (.arr h.length 0) := by
  obtain ⟨h1, h2, h3⟩ := step_push (w' := w) H (.arr sz [] 0) none rfl rfl rfl (Nat.le_refl _) (fun _ _ => rfl) (fun b c e => by cases e) fun _ _ => ⟨Nat.zero_le _, rfl⟩
  refine ⟨⟨h1, h2, h3⟩, ⟨_, _, _, rfl⟩, sz, [], 0, none, by simp, ?_, Nat.le_refl _, fun _ => ⟨rfl, none, rfl⟩⟩
  rw [← H.len]
  simp

theorem allocV_sound {t : TypeId} {x : V} (hx : allocV P h t = some (x, h')) (H : HRel X ρ h w) :
    ∃ v ρ' w', (Instr.alloc t true (.tuple #[])).run P w = .ok v w' ∧ Stp X ρ h w ρ' h' w' ∧ VRel X ρ' h' w' v x := by
  unfold allocV at hx
  split at hx
  · rename_i z hz
    split at hx
    · rename_i hok
      simp only [Option.some.injEq, Prod.mk.injEq] at hx; obtain ⟨rfl, rfl⟩ := hx
      obtain ⟨h1, h2⟩ := new_box H t (us := z.cells) (cellsRel_const (ρ := ρ) (h := h) (w := w) z.cells.toList hok)
      exact ⟨_, _, _, by simp [Instr.alloc, zeroValue_run hz, newVar, newRow], h1, h2⟩
    · cases hx
  · cases hx

theorem box_sound {t : TypeId} {A : V} {v : Value} (hs : A.storable = true) (H : HRel X ρ h w) (hv : VRel X ρ h w v A) :
    ∃ u ρ' w', (Instr.box t v).run P w = .ok u w' ∧ Stp X ρ h w ρ' (h ++ [.box A.cells]) w' ∧ VRel X ρ' (h ++ [.box A.cells]) w' u (.ptr h.length 0) := by
  obtain ⟨h1, h2⟩ := new_box H t (us := v.cells) (hv.cells hs)
  exact ⟨_, _, _, by simp [Instr.box, newVar, newRow], h1, h2⟩

theorem flat_replicate {x c : D} {n j : Nat} (hj : (flat (List.replicate n x))[j]? = some c) : x.cells[j % x.cells.length]? = some c := by
  induction n generalizing j with
  | zero => simp [flat] at hj
  | succ n ih =>
    simp only [flat, List.replicate_succ, List.flatMap_cons] at hj
    rcases Nat.lt_or_ge j x.cells.length with hlt | hge
    · rw [List.getElem?_append_left hlt] at hj
      rw [Nat.mod_eq_of_lt hlt]; exact hj
    · rw [List.getElem?_append_right hge] at hj
      have := ih hj
      rwa [← Nat.mod_eq_sub_mod hge] at this

theorem makeSliceV_sound {t : TypeId} {L C x : V} {l c : Value} (hx : makeSliceV P h t L C = some (x, h')) (H : HRel X ρ h w) (hl : VRel X ρ h w l L) (hc : VRel X ρ h w c C) :
    ∃ v ρ' w', (Instr.makeSlice t l c).run P w = .ok v w' ∧ Stp X ρ h w ρ' h' w' ∧ VRel X ρ' h' w' v x := by
  unfold makeSliceV at hx
  split at hx
  · rename_i e k n k' m hs
    cases hl; cases hc
    split at hx
    · rename_i i zd hi hz
      split at hx
      · rename_i hcond
        obtain ⟨c1, c2, c3, c4, c5, c6⟩ := hcond
        simp only [Option.some.injEq, Prod.mk.injEq] at hx; obtain ⟨rfl, rfl⟩ := hx
        obtain ⟨z, hz1, hz2⟩ := zeroD_rel hz
        have hiz : i.zero = some z := by
          have := hz1
          simp only [zero?, hi, Option.bind_some] at this
          exact this
        obtain ⟨n', rfl⟩ := Int.eq_ofNat_of_zero_le c1
        obtain ⟨m', rfl⟩ := Int.eq_ofNat_of_zero_le (Int.le_trans c1 c2)
        have hm : m' < 2147483648 := by omega
        have hb : i.bytes * m' ≤ 65536 * 2147483648 := Nat.mul_le_mul c4 (by omega)
        have hb2 : (i.bytes : Int) * (m' : Int) ≤ 281474976710656 := by
          have : ((i.bytes * m' : Nat) : Int) ≤ 281474976710656 := by omega
          rwa [Int.natCast_mul] at this
        have hr := run_make (P := P) w t e i z hs hi hiz k k' n' m' (by omega) c2 hb2 (by omega)
        simp only [Int.toNat_natCast] at hr ⊢
        have hrep := hz2 (Mut X ρ h) w
        obtain ⟨q1, q2⟩ := hrep.cells
        rw [c6] at q1
        obtain ⟨s1, s2⟩ := new_arr (w' := w) H rfl rfl rfl rfl e (us := madeCells z.cells (m' * i.size)) (xs := List.replicate n' zd) (sz := i.size) (cap := m') c5 (size_madeCells _ _)
          (by simp; omega) (by simp [maxLen]; omega) (fun x hx => by rw [List.eq_of_mem_replicate hx]; exact c6)
          (fun j c hj => by
            have hlt := lt_of_getElem? hj
            rw [flat_length (sz := i.size) fun x hx => by rw [List.eq_of_mem_replicate hx]; exact c6] at hlt
            simp only [List.length_replicate] at hlt
            have hlt' : j < m' * i.size := Nat.lt_of_lt_of_le hlt (Nat.mul_le_mul_right _ (by omega))
            have hcj := flat_replicate hj
            rw [c6] at hcj
            obtain ⟨u, k1, k2, k3⟩ := q2 _ c hcj
            refine ⟨u, ?_, k2, k3⟩
            simp only [madeCells, Array.getElem?_map]
            rw [Array.getElem?_range, if_pos hlt']
            simp only [Option.map_some, q1]
            rw [getElem!_def, k1])
        simp only [List.length_replicate] at s2
        exact ⟨_, _, _, hr, s1, s2⟩
      · cases hx
    · cases hx
  · cases hx

end
end Go.Am
