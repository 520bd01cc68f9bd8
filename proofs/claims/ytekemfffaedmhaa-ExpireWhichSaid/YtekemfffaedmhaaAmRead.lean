/- What a row's reading says of an argument: the data that it is. -/
import Derived.Test.YtekemfffaedmhaaAmRun
import Derived.ProofKit
import Derived.OpenShut
set_option linter.all false
namespace Go.Am

def tiles (P : Program) : Nat → List Field → Option Nat
  | n, [] => some n
  | n, f :: fs => if f.offset = n then tiles P (n + P.cellsOf f.type) fs else none

/-- Numbers, bools, texts, and slices, structs and arrays of such. -/
def plainTy (P : Program) : Nat → TypeId → Bool
  | 0, _ => false
  | n + 1, t =>
    match P.underlying t with
    | some (.int _) | some .bool | some .string => true
    | some (.slice e) => decide (0 < P.cellsOf e) && plainTy P n e
    | some (.struct fs) => (tiles P 0 fs.toList == some (P.cellsOf t)) && fs.toList.all fun f => plainTy P n f.type
    | _ => false

/-- Two lists, place by place. -/
inductive All2 {α β : Type} (R : α → β → Prop) : List α → List β → Prop
  | nil : All2 R [] []
  | cons {a : α} {b : β} {as : List α} {bs : List β} : R a b → All2 R as bs → All2 R (a :: as) (b :: bs)

/-- Data of a type. -/
def HasTy (P : Program) : Nat → TypeId → D → Prop
  | 0, _, _ => False
  | n + 1, t, x =>
    match P.underlying t with
    | some (.int k) => ∃ i, x = .int k i ∧ (Lit.int k i).wf = true
    | some .bool => ∃ b, x = .bool b
    | some .string => ∃ s, x = .str s ∧ s.size ≤ maxLen
    | some (.slice e) => ∃ xs, x = .list xs ∧ xs.length ≤ maxLen ∧ ∀ y ∈ xs, HasTy P n e y
    | some (.struct fs) => ∃ ys : List D, x = .agg (ys.flatMap D.cells) ∧ All2 (fun f y => HasTy P n f.type y) fs.toList ys
    | _ => False

def NoMut : Nat → Nat → Prop := fun _ _ => False

def CellsR (w : World) (cs : List Value) (ds : List D) : Prop :=
  cs.length = ds.length ∧ ∀ (j : Nat) (c : D), ds[j]? = some c → ∃ v, cs[j]? = some v ∧ Rep NoMut w v c ∧ c.isCell = true

section
variable {H : Type} {enc : TypeId × Value → H} {P : Program} {w : World}

theorem CellsR.one {v : Value} {c : D} (hr : Rep NoMut w v c) (hc : c.isCell = true) : CellsR w [v] c.cells := by
  rw [D.cells_one hc]
  refine ⟨rfl, fun j c' hj => ?_⟩
  cases j with
  | zero => simp only [List.getElem?_cons_zero, Option.some.injEq] at hj; subst hj; exact ⟨v, rfl, hr, hc⟩
  | succ j => simp at hj

theorem CellsR.append {cs : List Value} {k : Nat} {a b : List D} (ha : CellsR w (cs.take k) a) (hb : CellsR w (cs.drop k) b) : CellsR w cs (a ++ b) := by
  obtain ⟨a1, a2⟩ := ha
  obtain ⟨b1, b2⟩ := hb
  rw [List.length_take] at a1
  rw [List.length_drop] at b1
  refine ⟨by rw [List.length_append]; omega, fun j c hj => ?_⟩
  rcases Nat.lt_or_ge j a.length with hl | hl
  · rw [List.getElem?_append_left hl] at hj
    obtain ⟨v, h1, h2⟩ := a2 j c hj
    rw [List.getElem?_take] at h1
    split at h1
    · exact ⟨v, h1, h2⟩
    · cases h1
  · rw [List.getElem?_append_right hl] at hj
    obtain ⟨v, h1, h2⟩ := b2 _ c hj
    rw [List.getElem?_drop] at h1
    have hlt := lt_of_getElem? hj
    have e : k + (j - a.length) = j := by omega
    rw [e] at h1
    exact ⟨v, h1, h2⟩

theorem fields_read {m fuel : Nat} {cs : List Value} (ih : ∀ t cs d ps, plainTy P m t = true → DataW.trod enc P w 0 (fun _ => true) true fuel t cs = some (d, ps) → ∃ x, HasTy P m t x ∧ CellsR w cs x.cells) :
    ∀ (fs : List Field) (n : Nat) (xs : List (DataW H × List MemPlace)), tiles P n fs = some cs.length → n ≤ cs.length → (∀ f ∈ fs, plainTy P m f.type = true) →
      (fs.mapM fun f => DataW.trod enc P w 0 (fun _ => true) true fuel f.type ((cs.drop f.offset).take (P.cellsOf f.type))) = some xs →
      ∃ ys : List D, All2 (fun f y => HasTy P m f.type y) fs ys ∧ CellsR w (cs.drop n) (ys.flatMap D.cells)
  | [], n, xs, ht, hn, hp, hx => by
    simp only [tiles, Option.some.injEq] at ht
    subst ht
    exact ⟨[], .nil, by simp, fun j c hj => by simp at hj⟩
  | f :: fs, n, xs, ht, hn, hp, hx => by
    simp only [tiles] at ht
    split at ht
    · rename_i ho
      simp only [List.mapM_cons, Option.bind_eq_bind, Option.bind_eq_some_iff, Option.pure_def, Option.some.injEq] at hx
      obtain ⟨⟨d, ps⟩, hd, xs', hxs, rfl⟩ := hx
      obtain ⟨y, hy, hc⟩ := ih _ _ _ _ (hp f (List.mem_cons_self ..)) hd
      have hle : n + P.cellsOf f.type ≤ cs.length := by
        have : ∀ (fs : List Field) (n m : Nat), tiles P n fs = some m → n ≤ m := by
          intro fs
          induction fs with
          | nil => intro n m h; simp only [tiles, Option.some.injEq] at h; omega
          | cons g gs ih => intro n m h; simp only [tiles] at h; split at h
                            · have := ih _ _ h; omega
                            · cases h
        exact this _ _ _ ht
      obtain ⟨ys, h1, h2⟩ := fields_read ih fs (n + P.cellsOf f.type) xs' ht hle (fun g hg => hp g (List.mem_cons_of_mem _ hg)) hxs
      refine ⟨y :: ys, .cons hy h1, ?_⟩
      rw [List.flatMap_cons]
      refine CellsR.append (k := P.cellsOf f.type) (by rw [← ho]; exact hc) ?_
      rw [List.drop_drop]
      exact h2
    · cases ht

theorem elems_read {m fuel : Nat} {e : TypeId} {b off : Nat} (hm : plainTy P m e = true) (ih : ∀ t cs d ps, plainTy P m t = true → DataW.trod enc P w 0 (fun _ => true) true fuel t cs = some (d, ps) → ∃ x, HasTy P m t x ∧ CellsR w cs x.cells) :
    ∀ n : Nat, (∀ i, i < n → ∃ x, (w.cells? 0 ((⟨b, off, none⟩ : Addr).add (i * P.cellsOf e)) (P.cellsOf e)).bind (DataW.trod enc P w 0 (fun _ => true) true fuel e) = some x) →
      ∃ xs : List D, xs.length = n ∧ (∀ x ∈ xs, x.cells.length = P.cellsOf e) ∧ (∀ x ∈ xs, HasTy P m e x) ∧ (flat xs).length = n * P.cellsOf e ∧
        ∀ (j : Nat) (c : D), (flat xs)[j]? = some c → ∃ v, w.cell? ⟨b, off + j, none⟩ = some v ∧ Rep NoMut w v c ∧ c.isCell = true
  | 0, _ => ⟨[], rfl, by simp, by simp, by simp [flat], fun j c hj => by simp [flat] at hj⟩
  | n + 1, hx => by
    obtain ⟨xs, h1, h2, h3, h4, h5⟩ := elems_read hm ih n fun i hi => hx i (by omega)
    obtain ⟨⟨d, ps⟩, hd⟩ := hx n (by omega)
    simp only [Option.bind_eq_some_iff] at hd
    obtain ⟨cs, hcs, hd⟩ := hd
    obtain ⟨x, hx1, hx2, hx3⟩ := ih _ _ _ _ hm hd
    simp only [World.cells?, Nat.zero_le, if_true] at hcs
    obtain ⟨l1, l2⟩ := mapM_get hcs
    rw [List.length_range] at l1
    have hlen : x.cells.length = P.cellsOf e := by rw [← hx2, l1]
    have hfl : flat (xs ++ [x]) = flat xs ++ x.cells := by simp [flat]
    refine ⟨xs ++ [x], by simp [h1], fun y hy => ?_, fun y hy => ?_, ?_, fun j c hj => ?_⟩
    · rcases List.mem_append.1 hy with h | h
      · exact h2 y h
      · rw [List.mem_singleton.1 h]; exact hlen
    · rcases List.mem_append.1 hy with h | h
      · exact h3 y h
      · rw [List.mem_singleton.1 h]; exact hx1
    · rw [hfl, List.length_append, h4, hlen, Nat.add_mul, Nat.one_mul]
    · rw [hfl] at hj
      rcases Nat.lt_or_ge j (flat xs).length with hl | hl
      · rw [List.getElem?_append_left hl] at hj
        exact h5 j c hj
      · rw [List.getElem?_append_right hl] at hj
        obtain ⟨v, g1, g2, g3⟩ := hx3 _ c hj
        obtain ⟨i, g4, g5⟩ := l2 _ v g1
        have hi : i = j - (flat xs).length := by
          have hlt := lt_of_getElem? g4
          rw [List.length_range] at hlt
          rw [List.getElem?_range hlt, Option.some.injEq] at g4
          exact g4.symm
        refine ⟨v, ?_, g2, g3⟩
        rw [← g5]
        congr 1
        rw [hi, h4]
        unfold Addr.add
        split <;> split <;> simp <;> omega

theorem reads : ∀ (fuel m : Nat) (t : TypeId) (cs : List Value) (d : DataW H) (ps : List MemPlace), plainTy P m t = true → DataW.trod enc P w 0 (fun _ => true) true fuel t cs = some (d, ps) →
    ∃ x, HasTy P m t x ∧ CellsR w cs x.cells := by
  intro fuel
  induction fuel with
  | zero => intro m t cs d ps _ h; simp [DataW.trod] at h
  | succ fuel ih =>
    intro m t cs d ps hm h
    cases m with
    | zero => simp [plainTy] at hm
    | succ m =>
      have ih' : ∀ t cs d ps, plainTy P m t = true → DataW.trod enc P w 0 (fun _ => true) true fuel t cs = some (d, ps) → ∃ x, HasTy P m t x ∧ CellsR w cs x.cells := fun t cs d ps => ih m t cs d ps
      simp only [plainTy] at hm
      simp only [HasTy]
      unfold DataW.trod at h
      split at h
      case h_1 b e => rw [e]; exact ⟨.bool b, ⟨b, rfl⟩, CellsR.one (.bool b) rfl⟩
      case h_2 k k' n e =>
        rw [e]
        split at h
        · rename_i hk
          obtain ⟨rfl, hw⟩ := hk
          exact ⟨.int _ n, ⟨n, rfl, hw⟩, CellsR.one (.int _ n) rfl⟩
        · cases h
      case h_4 s e =>
        rw [e]
        split at h
        · rename_i hs
          exact ⟨.str s, ⟨s, rfl, hs⟩, CellsR.one (.str s) rfl⟩
        · cases h
      case h_7 e0 e => rw [e]; exact ⟨.list [], ⟨[], rfl, Nat.zero_le _, fun _ h => by cases h⟩, CellsR.one (.nil none 0) rfl⟩
      case h_8 e a len cap he =>
        rw [he] at hm ⊢
        simp only [Bool.and_eq_true, decide_eq_true_eq] at hm
        simp only at h
        split at h
        · rename_i hc
          simp only [Option.bind_eq_some_iff] at h
          obtain ⟨els, hels, -⟩ := h
          obtain ⟨r1, r2⟩ := mapM_get hels
          obtain ⟨_, r3⟩ := mapM_get' hels
          rw [List.length_range] at r1
          rcases Nat.eq_zero_or_pos len with h0 | h0
          · subst h0
            exact ⟨.list [], ⟨[], rfl, Nat.zero_le _, fun _ h => by cases h⟩, CellsR.one (.nil _ _) rfl⟩
          · have hspot : a.spot = none := by
              obtain ⟨x0, _, hx0⟩ := r3 0 0 (by rw [List.getElem?_range h0])
              simp only [Option.bind_eq_some_iff] at hx0
              obtain ⟨cs0, hcs0, -⟩ := hx0
              simp only [World.cells?, Nat.zero_le, if_true] at hcs0
              obtain ⟨_, q⟩ := mapM_get' hcs0
              obtain ⟨v0, _, hv0⟩ := q 0 0 (by rw [List.getElem?_range hm.1])
              simpa [Addr.add] using World.cell?_spot hv0
            obtain ⟨b, off, sp⟩ := a
            simp only at hspot
            subst hspot
            obtain ⟨xs, h1, h2, h3, h4, h5⟩ := elems_read hm.2 ih' (b := b) (off := off) len fun i hi => by
              obtain ⟨x, _, hx⟩ := r3 i i (by rw [List.getElem?_range hi])
              exact ⟨x, hx⟩
            refine ⟨.list xs, ⟨xs, rfl, by omega, h3⟩, CellsR.one ?_ rfl⟩
            refine .list b off len cap (P.cellsOf e) xs (fun j => (w.cell? ⟨b, off + j, none⟩).getD undef) h1.symm hc.2.1 h2 (fun j c hj => ?_) fun j c hj => ?_
            · obtain ⟨v, g1, g2, g3⟩ := h5 j c hj
              exact ⟨by rw [g1]; rfl, fun h => h, g3⟩
            · obtain ⟨v, g1, g2, g3⟩ := h5 j c hj
              rw [g1]; exact g2
        · cases h
      case h_9 cs' fs he =>
        rw [he] at hm ⊢
        simp only [Bool.and_eq_true, beq_iff_eq, List.all_eq_true] at hm
        split at h
        · rename_i hlen
          simp only [Option.map_eq_some_iff] at h
          obtain ⟨xs, hxs, -⟩ := h
          obtain ⟨ys, h1, h2⟩ := fields_read ih' fs.toList 0 xs (by rw [hlen]; exact hm.1) (Nat.zero_le _) hm.2 hxs
          exact ⟨.agg (ys.flatMap D.cells), ⟨ys, rfl, h1⟩, h2⟩
        · cases h
      all_goals
        rename_i e
        first
          | (rw [e] at hm; cases hm)
          | (exfalso; simp_all)

/-- An argument. -/
theorem arg_reads {m : Nat} {t : TypeId} {v : Value} {d : DataW H} {ps : List MemPlace} (hm : plainTy P m t = true) (hd : DataW.Trod enc P w 0 (fun _ => true) true t v d ps) :
    ∃ x, HasTy P m t x ∧ CellsR w v.cells.toList x.cells := by
  obtain ⟨fuel, h⟩ := hd
  exact reads fuel m t _ d ps hm h
end
end Go.Am
