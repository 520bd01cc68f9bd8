/- One step of the machine on its objects: a new one; one that is changed. -/
import Derived.Test.YtekemfffaedmhaaAmRel
set_option linter.all false
namespace Go.Am
section
variable {X : Nat → Nat → Prop} {ρ : Places} {h : List Obj} {w w' : World}

theorem getElem?_push {α : Type} (l : List α) (x : α) (i : Nat) (y : α) : (l ++ [x])[i]? = some y ↔ (l[i]? = some y ∨ (i = l.length ∧ x = y)) := by
  rcases Nat.lt_trichotomy i l.length with hi | hi | hi
  · rw [List.getElem?_append_left hi]
    constructor
    · exact .inl
    · rintro (e | ⟨e, _⟩)
      · exact e
      · omega
  · subst hi
    simp
  · rw [List.getElem?_eq_none (by simp; omega), List.getElem?_eq_none (by omega)]
    constructor
    · intro e; cases e
    · rintro (e | ⟨e, _⟩)
      · cases e
      · omega

/-- A new object: in a new block, or in none. -/
theorem step_push (H : HRel X ρ h w) (o : Obj) (r : Place) (hos : w'.os = w.os) (htape : w'.tape = w.tape) (hout : w'.output = w.output) (hsize : w.heap.size ≤ w'.heap.size)
    (hblk : ∀ b, b < w.heap.size → w'.heap[b]? = w.heap[b]?) (hr : ∀ b c, r = some (b, c) → w.heap.size ≤ b)
    (hobj : Fr X ρ h w (ρ ++ [r]) (h ++ [o]) w' → Evo h.length ρ h (ρ ++ [r]) (h ++ [o]) → ObjRel X (ρ ++ [r]) (h ++ [o]) w' r o) :
    HRel X (ρ ++ [r]) (h ++ [o]) w' ∧ Fr X ρ h w (ρ ++ [r]) (h ++ [o]) w' ∧ Evo h.length ρ h (ρ ++ [r]) (h ++ [o]) := by
  have hf : Fr X ρ h w (ρ ++ [r]) (h ++ [o]) w' := by
    refine ⟨hos, htape, hout, hsize, fun b hb hn => ⟨hblk b hb, fun id c hid => ?_⟩, fun b j v hm hc => ?_⟩
    · rcases (getElem?_push _ _ _ _).1 hid with e | ⟨_, e⟩
      · exact hn id c e
      · have := hr b c e; omega
    · have hb : b < w.heap.size := World.block_lt_of_cell? w ⟨b, j, none⟩ hc
      refine ⟨(World.cell?_of_block (a := ⟨b, j, none⟩) (hblk b hb)).trans hc, ?_⟩
      rintro (hX | ⟨id, c, o', h1, h2, h3⟩)
      · exact hm (.inl hX)
      rcases (getElem?_push _ _ _ _).1 h1 with e | ⟨_, e⟩
      · have hid : id < h.length := by rw [← H.len]; exact lt_of_getElem? e
        rw [List.getElem?_append_left hid] at h2
        exact hm (.inr ⟨id, c, o', e, h2, h3⟩)
      · have := hr b c e; omega
  have he : Evo h.length ρ h (ρ ++ [r]) (h ++ [o]) := fun id o' r' hid ho' hr' =>
    ⟨o', r', (getElem?_push _ _ _ _).2 (.inl ho'), (getElem?_push _ _ _ _).2 (.inl hr'), EvoObj.refl _ _⟩
  refine ⟨⟨by simp [H.len], fun id o' ho' => ?_, fun b j hX => Nat.lt_of_lt_of_le (H.xlt b j hX) hsize, fun id b c j hid => ?_, fun i j b c c' hi hj => ?_⟩, hf, he⟩
  · rcases (getElem?_push _ _ _ _).1 ho' with e | ⟨e1, e2⟩
    · obtain ⟨r', h1, h2⟩ := H.obj id o' e
      refine ⟨r', (getElem?_push _ _ _ _).2 (.inl h1), h2.kept hf he fun b c hbc => hblk b (H.lt (hbc ▸ h1))⟩
    · subst e2
      exact ⟨r, (getElem?_push _ _ _ _).2 (.inr ⟨by rw [e1, H.len], rfl⟩), hobj hf he⟩
  · rcases (getElem?_push _ _ _ _).1 hid with e | ⟨_, e⟩
    · exact H.xown id b c j e
    · intro hX
      have h1 := H.xlt b j hX
      have h2 := hr b c e
      omega
  · rcases (getElem?_push _ _ _ _).1 hi with e | ⟨e1, e2⟩ <;> rcases (getElem?_push _ _ _ _).1 hj with f | ⟨f1, f2⟩
    · exact H.inj i j b c c' e f
    · have := hr b c' f2; have := H.lt e; omega
    · have := hr b c e2; have := H.lt f; omega
    · omega

theorem getElem?_set' {α : Type} (l : List α) (i j : Nat) (x y : α) (hi : i < l.length) : (l.set i x)[j]? = some y ↔ ((i = j ∧ x = y) ∨ (i ≠ j ∧ l[j]? = some y)) := by
  by_cases e : i = j
  · subst e; simp [hi]
  · simp [e]

/-- An object is changed, in its block or into a new one. -/
theorem step_set (H : HRel X ρ h w) {id : Nat} {o o' : Obj} {r r' : Place} (ho : h[id]? = some o) (hr : ρ[id]? = some r)
    (hos : w'.os = w.os) (htape : w'.tape = w.tape) (hout : w'.output = w.output) (hsize : w.heap.size ≤ w'.heap.size)
    (hblk : ∀ b, b < w.heap.size → (∀ c, r ≠ some (b, c)) → w'.heap[b]? = w.heap[b]?)
    (hr' : r' = r ∨ (∃ c, r' = some (w.heap.size, c)))
    (himm : ∀ j v b c, r = some (b, c) → ¬ o.mutAt j → w.cell? ⟨b, j, none⟩ = some v → w'.cell? ⟨b, j, none⟩ = some v)
    (hmut : r' = r → ∀ j, ¬ o.mutAt j → ¬ o'.mutAt j) (hevo : EvoObj o o' r r')
    (hobj : Fr X ρ h w (ρ.set id r') (h.set id o') w' → Evo h.length ρ h (ρ.set id r') (h.set id o') → ObjRel X (ρ.set id r') (h.set id o') w' r' o') :
    HRel X (ρ.set id r') (h.set id o') w' ∧ Fr X ρ h w (ρ.set id r') (h.set id o') w' ∧ Evo h.length ρ h (ρ.set id r') (h.set id o') := by
  have hid : id < h.length := lt_of_getElem? ho
  have hid' : id < ρ.length := lt_of_getElem? hr
  have hnew : ∀ b c, b < w.heap.size → r' = some (b, c) → r' = r := fun b c hb e => by
    rcases hr' with e' | ⟨c', e'⟩
    · exact e'
    · rw [e] at e'; cases e'; omega
  have hf : Fr X ρ h w (ρ.set id r') (h.set id o') w' := by
    refine ⟨hos, htape, hout, hsize, fun b hb hn => ⟨hblk b hb fun c e => hn id c (e ▸ hr), fun i c hi => ?_⟩, fun b j v hm hc => ?_⟩
    · rcases (getElem?_set' _ _ _ _ _ hid').1 hi with ⟨_, e⟩ | ⟨_, e⟩
      · have := hnew b c hb e
        rw [this] at e
        exact hn id c (e ▸ hr)
      · exact hn i c e
    · have hb : b < w.heap.size := World.block_lt_of_cell? w ⟨b, j, none⟩ hc
      constructor
      · by_cases hown : ∃ c, r = some (b, c)
        · obtain ⟨c, e⟩ := hown
          exact himm j v b c e (fun hmu => hm (.inr ⟨id, c, o, e ▸ hr, ho, hmu⟩)) hc
        · exact (World.cell?_of_block (a := ⟨b, j, none⟩) (hblk b hb fun c e => hown ⟨c, e⟩)).trans hc
      · rintro (hX | ⟨i, c, o'', h1, h2, h3⟩)
        · exact hm (.inl hX)
        rcases (getElem?_set' _ _ _ _ _ hid').1 h1 with ⟨e1, e⟩ | ⟨e1, e⟩
        · subst e1
          rw [List.getElem?_set_self hid] at h2
          cases h2
          have e' := hnew b c hb e
          refine hmut e' j (fun hmu => hm (.inr ⟨id, c, o, by rw [← e, e', hr], ho, hmu⟩)) h3
        · rw [List.getElem?_set_ne e1] at h2
          exact hm (.inr ⟨i, c, o'', e, h2, h3⟩)
  have he : Evo h.length ρ h (ρ.set id r') (h.set id o') := fun i oi ri hi hoi hri => by
    by_cases e : id = i
    · subst e
      rw [ho] at hoi; rw [hr] at hri; cases hoi; cases hri
      exact ⟨o', r', by simp [hid], by simp [hid'], hevo⟩
    · exact ⟨oi, ri, by simp [e, hoi], by simp [e, hri], EvoObj.refl _ _⟩
  refine ⟨⟨by simp [H.len], fun i oi hoi => ?_, fun b j hX => Nat.lt_of_lt_of_le (H.xlt b j hX) hsize, fun i b c j hi => ?_, fun i j b c c' hi hj => ?_⟩, hf, he⟩
  · rcases (getElem?_set' _ _ _ _ _ hid).1 hoi with ⟨e1, e2⟩ | ⟨e1, e2⟩
    · subst e1; subst e2
      exact ⟨r', by simp [hid'], hobj hf he⟩
    · obtain ⟨ri, h1, h2⟩ := H.obj i oi e2
      refine ⟨ri, by simp [e1, h1], h2.kept hf he fun b c hbc => hblk b (H.lt (hbc ▸ h1)) fun c' e => e1 ?_⟩
      subst hbc; subst e
      exact (H.inj _ _ b _ _ hr h1)
  · rcases (getElem?_set' _ _ _ _ _ hid').1 hi with ⟨_, e⟩ | ⟨_, e⟩
    · rcases hr' with e' | ⟨c', e'⟩
      · exact H.xown id b c j (by rw [hr, ← e', e])
      · intro hX
        have h1 := H.xlt b j hX
        rw [e] at e'
        cases e'
        omega
    · exact H.xown i b c j e
  · rcases (getElem?_set' _ _ _ _ _ hid').1 hi with ⟨e1, e2⟩ | ⟨e1, e2⟩ <;> rcases (getElem?_set' _ _ _ _ _ hid').1 hj with ⟨f1, f2⟩ | ⟨f1, f2⟩
    · omega
    · have hb := H.lt f2
      have e3 := hnew b c hb e2
      exact e1 ▸ H.inj _ _ b c c' (by rw [hr, ← e3, e2]) f2
    · have hb := H.lt e2
      have e3 := hnew b c' hb f2
      exact f1 ▸ H.inj _ _ b c c' e2 (by rw [hr, ← e3, f2])
    · exact H.inj i j b c c' e2 f2

theorem set_self {α : Type} {l : List α} {i : Nat} {x : α} (hx : l[i]? = some x) : l.set i x = l := by
  apply List.ext_getElem?
  intro j
  by_cases e : i = j
  · subst e; rw [List.getElem?_set_self (lt_of_getElem? hx), hx]
  · simp [e]

/-- An own list stands still from here on. -/
theorem step_freeze (H : HRel X ρ h w) {id sz : Nat} {xs : List D} {wm : Nat} (ho : h[id]? = some (.arr sz xs wm)) :
    HRel X ρ (h.set id (.arr sz xs xs.length)) w ∧ Fr X ρ h w ρ (h.set id (.arr sz xs xs.length)) w ∧ Evo h.length ρ h ρ (h.set id (.arr sz xs xs.length)) := by
  obtain ⟨r, hr, hrel⟩ := H.obj id _ ho
  have := step_set (w' := w) (r' := r) (o' := .arr sz xs xs.length) H ho hr rfl rfl rfl (Nat.le_refl _) (fun _ _ _ => rfl) (.inl rfl) (fun _ _ _ _ _ _ hc => hc)
    (fun _ j hj => by
      have hw := hrel.1
      simp only [Obj.mutAt, Nat.not_le] at hj ⊢
      exact Nat.lt_of_lt_of_le hj (Nat.mul_le_mul_right _ hw)) ⟨rfl, Nat.le_refl _, fun _ => rfl⟩
    (fun hf he => by
      refine ⟨Nat.le_refl _, ?_⟩
      have hr2 := hrel.2
      cases r with
      | none => exact hr2
      | some p =>
        obtain ⟨b, c⟩ := p
        obtain ⟨cur, e, fz, h1, h2, h3, h4, h5, h6, h7, h8⟩ := hr2
        exact ⟨cur, e, fz, h1, h2, h3, h4, h5, h6, h7, fun j x hj => let ⟨u, h9, h10, h11⟩ := h8 j x hj; ⟨u, h9, h10.mono hf.imm, h11⟩⟩)
  rw [set_self hr] at this
  exact this

theorem flat_length {xs : List D} {sz : Nat} (hs : ∀ x ∈ xs, x.cells.length = sz) : (flat xs).length = xs.length * sz := by
  induction xs with
  | nil => simp [flat]
  | cons x xs ih =>
    have := ih fun y hy => hs y (by simp [hy])
    simp only [flat, List.flatMap_cons, List.length_append, List.length_cons] at this ⊢
    rw [this, hs x (by simp), Nat.add_mul]
    omega

theorem cell_of_heap {w : World} {b : Nat} {cur : Array Value} {e : TypeId} {fz : Nat × Nat} (hb : w.heap[b]? = some (.cells cur e fz)) (j : Nat) : w.cell? ⟨b, j, none⟩ = cur[j]? := by
  simp [World.cell?, hb]

/-- An own list whose elements may not be written any more reads as a list. -/
theorem arr_reads (H : HRel X ρ h w) {id sz : Nat} {xs : List D} {wm : Nat} (ho : h[id]? = some (.arr sz xs wm)) (hw : wm = xs.length) {v : Value} (hv : V1 X ρ h w v (.arr id xs.length)) :
    Rep (Mut X ρ h) w v (.list xs) := by
  obtain ⟨_, sz', xs', wm', r, h1, h2, _, h4⟩ := hv
  rw [ho] at h1; cases h1
  have hav := h4 rfl
  obtain ⟨r', h5, h6⟩ := H.obj id _ ho
  rw [h2] at h5; cases h5
  have h7 := h6.2
  cases r with
  | none =>
    subst h7
    obtain ⟨_, a, rfl⟩ := hav
    exact .nil a 0
  | some p =>
    obtain ⟨b, cap⟩ := p
    obtain ⟨cur, e, fz, k1, k2, k3, k4, k5, k6, k7, k8⟩ := h7
    simp only [ArrVal] at hav
    subst hav
    have hlen := flat_length k6
    refine .list b 0 xs.length cap sz xs (fun j => cur.getD j undef) rfl k3 k6 (fun j c hj => ?_) (fun j c hj => ?_)
    · obtain ⟨u, k9, k10, k11⟩ := k8 j c hj
      refine ⟨?_, ?_, k11⟩
      · rw [cell_of_heap k1, Nat.zero_add, k9]
        simp [Array.getD_eq_getD_getElem?, k9]
      · rintro (hX | ⟨i, c', o, m1, m2, m3⟩)
        · exact H.xown id b cap _ h2 hX
        have := H.inj _ _ b _ _ h2 m1
        subst this
        rw [ho] at m2; cases m2
        have hj' := lt_of_getElem? hj
        simp only [Obj.mutAt, hw] at m3
        rw [hlen] at hj'
        omega
    · obtain ⟨u, k9, k10, k11⟩ := k8 j c hj
      simpa [Array.getD_eq_getD_getElem?, k9] using k10
end
end Go.Am
