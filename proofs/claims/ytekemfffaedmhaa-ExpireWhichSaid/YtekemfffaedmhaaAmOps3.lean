/- Conversions that make no memory; slices of slices; assertions. -/
import Derived.Test.YtekemfffaedmhaaAmOps2
import Derived.Laws.BytesString
import Derived.Laws.Slices
set_option linter.all false
namespace Go.Am
section
variable {X : Nat → Nat → Prop} {ρ ρ' ρ'' : Places} {h h' h'' : List Obj} {w w' w'' : World} {P : Program}

theorem flat_one {xs : List D} (hs : ∀ x ∈ xs, x.isCell = true) : flat xs = xs := by
  induction xs with
  | nil => rfl
  | cons x xs ih =>
    simp only [flat, List.flatMap_cons] at ih ⊢
    rw [D.cells_one (hs x (by simp)), ih fun y hy => hs y (by simp [hy])]
    rfl

theorem bytes_of {xs : List D} {bs : List UInt8} (hm : xs.mapM byteOf? = some bs) : ∃ ns : List Int, xs = ns.map (D.int .u8) ∧ bs = ns.map fun n => UInt8.ofNat n.toNat := by
  induction xs generalizing bs with
  | nil => simp at hm; subst hm; exact ⟨[], rfl, rfl⟩
  | cons x xs ih =>
    simp only [List.mapM_cons, Option.bind_eq_bind, Option.bind_eq_some_iff, Option.pure_def, Option.some.injEq] at hm
    obtain ⟨b, hb, bs', hbs, rfl⟩ := hm
    obtain ⟨ns, rfl, rfl⟩ := ih hbs
    unfold byteOf? at hb
    split at hb
    · rename_i n
      simp only [Option.some.injEq] at hb; subst hb
      exact ⟨n :: ns, rfl, rfl⟩
    · cases hb

theorem foldl_push (ns : List Int) (s : ByteArray) : ns.foldl (fun r n => r.push (UInt8.ofNat n.toNat)) s = ⟨(s.data.toList ++ ns.map fun n => UInt8.ofNat n.toNat).toArray⟩ := by
  induction ns generalizing s with
  | nil => simp
  | cons n ns ih =>
    rw [List.foldl_cons, ih]
    congr 2
    simp [ByteArray.push]

theorem Reads.ints {M : Nat → Nat → Prop} {v : Value} {ns : List Int} {k : IntKind} (hr : Reads M w v (ns.map (D.int k))) :
    ∃ a cap, v = .slice a ns.length cap ∧ (ns = [] ∨ ∃ b o, a = some ⟨b, o, none⟩ ∧ LieAt w b o (ns.map (Value.int k))) := by
  obtain ⟨a, cap, rfl, hc⟩ := hr
  refine ⟨a, cap, by simp, ?_⟩
  rcases hc with e | ⟨b, o, sz, rfl, h1, h2⟩
  · exact .inl (by simpa using e)
  · refine .inr ⟨b, o, rfl, fun j u hj => ?_⟩
    simp only [List.getElem?_map, Option.map_eq_some_iff] at hj
    obtain ⟨n, hn, rfl⟩ := hj
    rw [flat_one (by intro x hx; simp at hx; obtain ⟨n, _, rfl⟩ := hx; rfl)] at h2
    obtain ⟨u, h3, h4, _⟩ := h2 j (.int k n) (by simp [hn])
    cases h4
    exact h3

theorem readConvV_sound {src dst : TypeId} {A x : V} {v : Value} (hx : readConvV P h src dst A = some x) (H : HRel X ρ h w) (hv : VRel X ρ h w v A) :
    ∃ u y, (convert src dst v).run P w = .ok u w ∧ x = .d y ∧ Rep (Mut X ρ h) w u y := by
  unfold readConvV at hx
  split at hx
  · rename_i ds k k' n hs hd
    cases hv
    simp only [Option.some.injEq] at hx; subst hx
    exact ⟨_, _, by simp [convert, run_underlying hs, run_underlying hd, Conv.intToInt], rfl, .int _ _⟩
  · rename_i s hs hd
    cases hv
    simp only [Option.some.injEq] at hx; subst hx
    exact ⟨_, _, by simp [convert, run_underlying hs, run_underlying hd], rfl, .str _⟩
  · rename_i e hs hd
    split at hx
    · rename_i xs he hxs
      simp only [Option.map_eq_some_iff] at hx
      obtain ⟨bs, hbs, rfl⟩ := hx
      obtain ⟨ns, rfl, rfl⟩ := bytes_of hbs
      obtain ⟨a, cap, rfl, hc⟩ := (elems_sound hxs H hv).ints
      refine ⟨_, _, ?_, rfl, .str _⟩
      rw [run_convert_bytes_string w src dst e a ns.length cap hs he hd]
      rcases hc with rfl | ⟨b, o, rfl, hl⟩
      · cases a with
        | none => rfl
        | some a =>
          exact run_bytesToString (P := P) w a 0 cap [] (by simpa using run_loadCells_list (P := P) w a [] (by simp))
      · have hld := run_loadCells_list (P := P) w ⟨b, o, none⟩ (ns.map (Value.int .u8)) fun j u hj => by
          rw [Addr.add_lit]; exact hl j u hj
        rw [List.length_map] at hld
        rw [run_bytesToString (P := P) w _ ns.length cap ns hld, foldl_push]
        rfl
    · cases hx
  · cases hx

/-! ### slices -/

theorem natOf_sound {A : V} {n : Nat} {v : Value} (hx : natOf? A = some n) (hv : VRel X ρ h w v A) : ∃ k, v = .int k n := by
  unfold natOf? at hx
  split at hx
  · rename_i k m
    cases hv
    split at hx
    · rename_i hm
      simp only [Option.some.injEq] at hx; subst hx
      exact ⟨k, by rw [Int.toNat_of_nonneg hm]⟩
    · cases hx
  · cases hx

theorem bounds_sound {n cap l u : Nat} {lo hi : Option V} {vlo vhi : Option Value} {isSlice : Bool} (hb : bounds? n lo hi = some (l, u)) (hcap : n ≤ cap)
    (hlo : ∀ A, lo = some A → ∃ v, vlo = some v ∧ VRel X ρ h w v A) (hlo0 : lo = none → vlo = none)
    (hhi : ∀ A, hi = some A → ∃ v, vhi = some v ∧ VRel X ρ h w v A) (hhi0 : hi = none → vhi = none) :
    l ≤ u ∧ u ≤ n ∧ (Instr.sliceBounds isSlice n cap vlo vhi none).run P w = .ok (l, u, cap) w := by
  unfold bounds? at hb
  split at hb
  · rename_i u' l' hu hl
    split at hb
    · rename_i hle
      simp only [Option.some.injEq, Prod.mk.injEq] at hb
      obtain ⟨rfl, rfl⟩ := hb
      refine ⟨hle.1, hle.2, ?_⟩
      have hsb : ∀ (k : IntKind) (i y : Nat) (c : BoundsCode), i ≤ y → (Instr.sliceBound (.int k i) y c).run P w = .ok i w := fun k i y c hi => run_sliceBound w k i y c (by omega) (by omega)
      have hi' : (hi = none ∧ vhi = none ∧ u' = n) ∨ ∃ k, vhi = some (.int k u') := by
        cases hi with
        | none => simp only [bound?, Option.some.injEq] at hu; exact .inl ⟨rfl, hhi0 rfl, hu.symm⟩
        | some A =>
          obtain ⟨v, e, hv⟩ := hhi A rfl
          obtain ⟨k, rfl⟩ := natOf_sound (n := u') hu hv
          exact .inr ⟨k, e⟩
      have lo' : (lo = none ∧ vlo = none ∧ l' = 0) ∨ ∃ k, vlo = some (.int k l') := by
        cases lo with
        | none => simp only [bound?, Option.some.injEq] at hl; exact .inl ⟨rfl, hlo0 rfl, hl.symm⟩
        | some A =>
          obtain ⟨v, e, hv⟩ := hlo A rfl
          obtain ⟨k, rfl⟩ := natOf_sound (n := l') hl hv
          exact .inr ⟨k, e⟩
      rcases hi' with ⟨_, rfl, rfl⟩ | ⟨k, rfl⟩ <;> rcases lo' with ⟨_, rfl, rfl⟩ | ⟨k', rfl⟩
      · simp [Instr.sliceBounds]
      · simp [Instr.sliceBounds, hsb k' l' _ _ hle.1]
      · simp [Instr.sliceBounds, hsb k u' cap _ (by omega)]
      · simp [Instr.sliceBounds, hsb k u' cap _ (by omega), hsb k' l' u' _ hle.1]
    · cases hb
  · cases hb

theorem allSize_spec {n : Nat} : ∀ {xs : List D}, allSize n xs = true → ∀ x ∈ xs, x.cells.length = n
  | [], _, x, hx => by simp at hx
  | y :: ys, ha, x, hx => by
    simp only [allSize, Bool.and_eq_true, beq_iff_eq] at ha
    rcases List.mem_cons.1 hx with rfl | hx
    · exact ha.1
    · exact allSize_spec ha.2 x hx

theorem flat_append (xs ys : List D) : flat (xs ++ ys) = flat xs ++ flat ys := by simp [flat]

theorem flat_cut {xs : List D} {l u sz : Nat} (hs : ∀ x ∈ xs, x.cells.length = sz) (hu : u ≤ xs.length) (hl : l ≤ u) {j : Nat} {c : D} (hj : (flat (cut xs l u))[j]? = some c) :
    (flat xs)[l * sz + j]? = some c := by
  have e1 : xs = (xs.take u).take l ++ (cut xs l u ++ xs.drop u) := by
    rw [cut, ← List.append_assoc, List.take_append_drop, List.take_append_drop]
  have e2 : (flat ((xs.take u).take l)).length = l * sz := by
    rw [flat_length (sz := sz) fun x hx => hs x (List.mem_of_mem_take (List.mem_of_mem_take hx))]
    simp
    congr 1
    omega
  rw [e1, flat_append, List.getElem?_append_right (by omega), e2, Nat.add_sub_cancel_left, flat_append, List.getElem?_append_left (lt_of_getElem? hj)]
  exact hj

theorem cut_mem {xs : List D} {l u : Nat} {x : D} (hx : x ∈ cut xs l u) : x ∈ xs := List.mem_of_mem_take (List.mem_of_mem_drop hx)

theorem cut_length {xs : List D} {l u : Nat} (hu : u ≤ xs.length) : (cut xs l u).length = u - l := by
  simp [cut]; omega

/-- A piece of a list that stands still. -/
theorem Rep.cut {M : Nat → Nat → Prop} {v : Value} {xs : List D} {t e : TypeId} {sz l u : Nat} {vlo vhi : Option Value} (hv : Rep M w v (.list xs)) (hs : P.underlying t = some (.slice e)) (hsz : sizeOf? P e = some sz)
    (hok : l = 0 ∨ ∀ x ∈ xs, x.cells.length = sz)
    (hb : ∀ cap, xs.length ≤ cap → l ≤ u ∧ u ≤ xs.length ∧ (Instr.sliceBounds true xs.length cap vlo vhi none).run P w = .ok (l, u, cap) w) :
    ∃ z, (Instr.sliceAt t v vlo vhi none).run P w = .ok z w ∧ Rep M w z (.list (Am.cut xs l u)) := by
  have hrun : ∀ a len cap, len = xs.length → xs.length ≤ cap → (Instr.sliceAt t (.slice a len cap) vlo vhi none).run P w =
      .ok (.slice (if cap = l then a else a.map (·.add (l * sz))) (u - l) (cap - l)) w := fun a len cap e1 e2 => by
    obtain ⟨_, _, h3⟩ := hb cap e2
    simp [Instr.sliceAt, run_underlying hs, Instr.slice, e1, h3, sizeOf_run hsz]
  cases hv with
  | nil a c =>
    obtain ⟨h1, h2, _⟩ := hb c (Nat.zero_le _)
    simp only [List.length_nil, Nat.le_zero_eq] at h2
    subst h2
    refine ⟨_, hrun a 0 c rfl (Nat.zero_le _), ?_⟩
    simp only [Am.cut, List.take_nil, List.drop_nil, Nat.zero_sub]
    exact .nil _ _
  | list b off len cap sz' _ vs e1 e2 e3 e4 e5 =>
    obtain ⟨h1, h2, _⟩ := hb cap (by omega)
    refine ⟨_, hrun _ len cap e1 (by omega), ?_⟩
    by_cases hcl : cap = l
    · have hul : u - l = 0 := by omega
      have : Am.cut xs l u = [] := List.eq_nil_of_length_eq_zero (by rw [cut_length h2, hul])
      rw [this, hul]
      exact .nil _ _
    · rw [if_neg hcl]
      have hmul : l * sz = l * sz' := by
        rcases hok with rfl | hok
        · simp
        · rcases Nat.eq_zero_or_pos xs.length with hx0 | hx0
          · have : l = 0 := by omega
            simp [this]
          · obtain ⟨x, hx⟩ := List.exists_mem_of_length_pos hx0
            rw [← hok x hx, e3 x hx]
      simp only [Option.map_some, Addr.add_lit, hmul]
      refine .list b (off + l * sz') (u - l) (cap - l) sz' _ (fun j => vs (l * sz' + j)) (cut_length h2).symm (by omega) (fun x hx => e3 x (cut_mem hx)) (fun j c hj => ?_) (fun j c hj => ?_)
      · have := e4 _ c (flat_cut e3 h2 h1 hj)
        rwa [← Nat.add_assoc] at this
      · exact e5 _ c (flat_cut e3 h2 h1 hj)

theorem sliceV_sound {t : TypeId} {A x : V} {lo hi mx : Option V} {v : Value} {vlo vhi vmx : Option Value} (hx : sliceV P h t A lo hi mx = some x) (H : HRel X ρ h w) (hv : VRel X ρ h w v A)
    (hlo : ∀ A, lo = some A → ∃ v, vlo = some v ∧ VRel X ρ h w v A) (hlo0 : lo = none → vlo = none)
    (hhi : ∀ A, hi = some A → ∃ v, vhi = some v ∧ VRel X ρ h w v A) (hhi0 : hi = none → vhi = none) (hmx0 : mx = none → vmx = none) :
    ∃ z, (Instr.sliceAt t v vlo vhi vmx).run P w = .ok z w ∧ VRel X ρ h w z x := by
  unfold sliceV at hx
  split at hx
  · rename_i s hs
    cases hv
    rw [hmx0 rfl]
    split at hx
    · rename_i l u hb
      simp only [Option.some.injEq] at hx; subst hx
      obtain ⟨h1, h2, h3⟩ := bounds_sound (P := P) (isSlice := false) hb (Nat.le_refl _) hlo hlo0 hhi hhi0
      exact ⟨_, by simp [Instr.sliceAt, run_underlying hs, Instr.slice, h3], .str _⟩
    · cases hx
  · rename_i e xs hs
    rw [hmx0 rfl]
    split at hx
    · rename_i l u sz hb hsz
      split at hx
      · rename_i hok
        simp only [Option.some.injEq] at hx; subst hx
        refine Rep.cut hv hs hsz ?_ fun cap hc => bounds_sound (P := P) hb hc hlo hlo0 hhi hhi0
        simp only [Bool.or_eq_true, beq_iff_eq] at hok
        exact hok.imp id allSize_spec
      · cases hx
    · cases hx
  · rename_i e hs
    rw [hmx0 rfl]
    split at hx
    · rename_i p sz hb hsz
      obtain ⟨l, u⟩ := p
      simp only [Option.some.injEq] at hx; subst hx
      have hv' : v = .slice none 0 0 := hv
      subst hv'
      obtain ⟨h1, h2, h3⟩ := bounds_sound (P := P) (isSlice := true) hb (Nat.le_refl _) hlo hlo0 hhi hhi0
      refine ⟨.slice none 0 0, ?_, rfl⟩
      have hu : u = 0 := by omega
      have hl : l = 0 := by omega
      subst hu; subst hl
      simp [Instr.sliceAt, run_underlying hs, Instr.slice, h3, sizeOf_run hsz]
    · cases hx
  · rename_i e id n hs
    rw [hmx0 rfl]
    split at hx
    · rename_i sz xs wm sz' ho hsz
      split at hx
      · rename_i hc
        obtain ⟨rfl, hw, rfl⟩ := hc
        split at hx
        · rename_i l u hb
          simp only [Option.some.injEq] at hx; subst hx
          have hr := arr_reads H ho hw hv
          obtain ⟨r, hr1, hr2⟩ := H.obj id _ ho
          refine Rep.cut hr hs hsz ?_ fun cap hc => bounds_sound (P := P) hb hc hlo hlo0 hhi hhi0
          have h7 := hr2.2
          cases r with
          | none => subst h7; exact .inr fun x hx => by simp at hx
          | some p => exact .inr h7.choose_spec.choose_spec.choose_spec.2.2.2.2.2.1
        · cases hx
      · cases hx
    · cases hx
  · cases hx

/-! ### interface values -/

theorem ifaceV_sound {t : TypeId} {A x : V} {v : Value} (hx : ifaceV P h t A = some (x, h')) (H : HRel X ρ h w) (hv : VRel X ρ h w v A) :
    Stp X ρ h w ρ h' w ∧ ∃ u, (Instr.makeInterface t v).run P w = .ok u w ∧ VRel X ρ h' w u x := by
  unfold ifaceV at hx
  split at hx
  · cases hx
  · rename_i d hni hs
    simp only [Option.map_eq_some_iff, Prod.exists] at hx
    obtain ⟨y, h1, hp, e⟩ := hx
    simp only [Prod.mk.injEq] at e; obtain ⟨rfl, rfl⟩ := e
    obtain ⟨st, hr⟩ := pureV_sound hp H hv
    refine ⟨st, _, ?_, .iface t v y hr⟩
    simp only [Instr.makeInterface, Sem.run_bind, run_underlying hs, Result.andThen_ok]
    rfl
  · cases hx

theorem constD_rel {M : Nat → Nat → Prop} {z : Value} {x : D} (hx : constD? z = some x) : Rep M w z x ∧ x.isCell = true := by
  unfold constD? at hx
  split at hx <;> first
    | cases hx; done
    | (simp only [Option.some.injEq] at hx; subst hx; exact ⟨.int _ _, rfl⟩)
    | (simp only [Option.some.injEq] at hx; subst hx; exact ⟨.bool _, rfl⟩)
    | (simp only [Option.some.injEq] at hx; subst hx; exact ⟨.str _, rfl⟩)
    | (simp only [Option.some.injEq] at hx; subst hx; exact ⟨.nilP, rfl⟩)
    | (simp only [Option.some.injEq] at hx; subst hx; exact ⟨.nilM, rfl⟩)
    | (simp only [Option.some.injEq] at hx; subst hx; exact ⟨.nilF, rfl⟩)
    | (simp only [Option.some.injEq] at hx; subst hx; exact ⟨.nilI, rfl⟩)
    | (simp only [Option.some.injEq] at hx; subst hx; exact ⟨.nil _ _, rfl⟩)

theorem mapM_get {α β : Type} {f : α → Option β} : ∀ {l : List α} {r : List β}, l.mapM f = some r → r.length = l.length ∧ ∀ (j : Nat) (b : β), r[j]? = some b → ∃ a, l[j]? = some a ∧ f a = some b
  | [], r, hm => by simp at hm; subst hm; exact ⟨rfl, fun j b hj => by simp at hj⟩
  | x :: l, r, hm => by
    simp only [List.mapM_cons, Option.bind_eq_bind, Option.bind_eq_some_iff, Option.pure_def, Option.some.injEq] at hm
    obtain ⟨y, hy, ys, hys, rfl⟩ := hm
    obtain ⟨h1, h2⟩ := mapM_get hys
    refine ⟨by simp [h1], fun j b hj => ?_⟩
    cases j with
    | zero => simp at hj; subst hj; exact ⟨x, by simp, hy⟩
    | succ j => simpa using h2 j b (by simpa using hj)

theorem zeroD_rel {t : TypeId} {x : D} (hx : zeroD? P t = some x) : ∃ z, zero? P t = some z ∧ ∀ (M : Nat → Nat → Prop) (w : World), Rep M w z x := by
  unfold zeroD? at hx
  split at hx
  · rename_i cs hz
    simp only [Option.map_eq_some_iff] at hx
    obtain ⟨ds, hds, rfl⟩ := hx
    obtain ⟨h1, h2⟩ := mapM_get hds
    refine ⟨_, hz, fun M w => .agg cs ds (fun j => cs.getD j undef) (by simpa using h1.symm) (fun j c hj => ?_) (fun j c hj => ?_)⟩
    · obtain ⟨a, ha, hc⟩ := h2 j c hj
      have ha' : cs[j]? = some a := by simpa using ha
      exact ⟨by simp [Array.getD_eq_getD_getElem?, ha'], (constD_rel (M := M) (w := w) hc).2⟩
    · obtain ⟨a, ha, hc⟩ := h2 j c hj
      have ha' : cs[j]? = some a := by simpa using ha
      simpa [Array.getD_eq_getD_getElem?, ha'] using (constD_rel (M := M) (w := w) hc).1
  · rename_i z _ hz
    exact ⟨z, hz, fun M w => (constD_rel hx).1⟩
  · cases hx

theorem zeroValue_run {t : TypeId} {z : Value} (hz : zero? P t = some z) : (zeroValue t).run P w = .ok z w := by
  simp only [zero?, Option.bind_eq_some_iff] at hz
  obtain ⟨i, hi, hz⟩ := hz
  simp [zeroValue, typeInfo, hi, hz]

theorem assertV_sound {A x : V} {v : Value} {xT asserted : TypeId} {ok : Bool} (hx : assertV P A asserted ok = some x) (hv : VRel X ρ h w v A) :
    ∃ u, (Instr.typeAssert v xT asserted ok).run P w = .ok u w ∧ VRel X ρ h w u x := by
  have htup : ∀ {a b : Value} {A B : D}, Rep (Mut X ρ h) w a A → Rep (Mut X ρ h) w b B → VRel X ρ h w (.tuple #[a, b]) (.tup [.d A, .d B]) := fun {a b A B} ha hb =>
    ⟨_, rfl, rfl, fun j c hj => by
      match j, hj with
      | 0, hj => simp at hj; subst hj; exact ⟨a, by simp, ha⟩
      | 1, hj => simp at hj; subst hj; exact ⟨b, by simp, hb⟩⟩
  unfold assertV at hx
  split at hx
  · cases hx
  · rename_i d hni hs
    cases hv
    cases ok with
    | false => simp at hx
    | true =>
      simp only [if_true, Option.map_eq_some_iff] at hx
      obtain ⟨zd, hz, rfl⟩ := hx
      obtain ⟨z, hz1, hz2⟩ := zeroD_rel hz
      refine ⟨.tuple #[z, .bool false], ?_, htup (hz2 _ _) (.bool false)⟩
      simp only [Instr.typeAssert, Sem.run_bind, run_underlying hs, Result.andThen_ok]
      cases d <;> first
        | exact (hni _ hs).elim
        | simp [zeroValue_run hz1]
  · rename_i d t y hni hs
    cases hv with
    | iface _ v' _ hv' =>
      split at hx
      · rename_i ht
        subst ht
        simp only [Option.some.injEq] at hx; subst hx
        cases ok with
        | true =>
          refine ⟨.tuple #[v', .bool true], ?_, htup hv' (.bool true)⟩
          simp only [Instr.typeAssert, Sem.run_bind, run_underlying hs, Result.andThen_ok]
          cases d <;> first
            | exact (hni _ hs).elim
            | simp
        | false =>
          refine ⟨v', ?_, hv'⟩
          simp only [Instr.typeAssert, Sem.run_bind, run_underlying hs, Result.andThen_ok]
          cases d <;> first
            | exact (hni _ hs).elim
            | simp
      · rename_i ht
        cases ok with
        | false => simp at hx
        | true =>
          simp only [if_true, Option.map_eq_some_iff] at hx
          obtain ⟨zd, hz, rfl⟩ := hx
          obtain ⟨z, hz1, hz2⟩ := zeroD_rel hz
          refine ⟨.tuple #[z, .bool false], ?_, htup (hz2 _ _) (.bool false)⟩
          simp only [Instr.typeAssert, Sem.run_bind, run_underlying hs, Result.andThen_ok]
          cases d <;> first
            | exact (hni _ hs).elim
            | simp [ht, zeroValue_run hz1]
  · cases hx

end
end Go.Am
