/- Objects under other numbers. -/
import Derived.Test.YtekemfffaedmhaaAmMem4
set_option linter.all false
namespace Go.Am

theorem addIds_prefix : ∀ (l acc : List Nat), ∃ r, addIds acc l = acc ++ r
  | [], acc => ⟨[], by simp [addIds]⟩
  | i :: l, acc => by
    simp only [addIds]
    obtain ⟨r, hr⟩ := addIds_prefix l (if acc.contains i then acc else acc ++ [i])
    rw [hr]
    split
    · exact ⟨r, rfl⟩
    · exact ⟨i :: r, by simp⟩

theorem addIds_nodup : ∀ (l acc : List Nat), acc.Nodup → (addIds acc l).Nodup
  | [], _, h => h
  | i :: l, acc, h => by
    simp only [addIds]
    refine addIds_nodup l _ ?_
    split
    · exact h
    · rename_i hi
      rw [List.nodup_append]
      refine ⟨h, by simp, fun a ha b hb => ?_⟩
      simp only [List.mem_singleton] at hb
      subst hb
      intro e
      subst e
      exact hi (by simpa using ha)

theorem close_prefix (h : List Obj) : ∀ (fuel pos : Nat) (acc : List Nat), ∃ r, close h fuel pos acc = acc ++ r
  | 0, _, acc => ⟨[], by simp [close]⟩
  | fuel + 1, pos, acc => by
    simp only [close]
    split
    · exact ⟨[], by simp⟩
    · rename_i i _
      obtain ⟨r, hr⟩ := addIds_prefix (idsAt h i) acc
      obtain ⟨r', hr'⟩ := close_prefix h fuel (pos + 1) (addIds acc (idsAt h i))
      exact ⟨r ++ r', by rw [hr', hr, List.append_assoc]⟩

theorem close_nodup (h : List Obj) : ∀ (fuel pos : Nat) (acc : List Nat), acc.Nodup → (close h fuel pos acc).Nodup
  | 0, _, _, hn => hn
  | fuel + 1, pos, acc, hn => by
    simp only [close]
    split
    · exact hn
    · exact close_nodup h fuel _ _ (addIds_nodup _ _ hn)

theorem reach_nodup (h : List Obj) {acc : List Nat} (hn : acc.Nodup) : (reach h acc).Nodup := close_nodup h _ _ _ hn

theorem reach_range (h : List Obj) (k : Nat) (l : List Nat) : ∃ r, reach h (addIds (List.range k) l) = List.range k ++ r := by
  obtain ⟨r, hr⟩ := addIds_prefix l (List.range k)
  obtain ⟨r', hr'⟩ := close_prefix h (h.length + 1) 0 (addIds (List.range k) l)
  exact ⟨r ++ r', by rw [reach, hr', hr, List.append_assoc]⟩

theorem place_get : ∀ {ids : List Nat} {i j : Nat}, place ids i = some j → ids[j]? = some i
  | [], _, _, h => by simp [place] at h
  | x :: xs, i, j, h => by
    simp only [place] at h
    split at h
    · rename_i e
      simp only [Option.some.injEq] at h
      subst h; subst e
      rfl
    · simp only [Option.map_eq_some_iff] at h
      obtain ⟨j', hj', rfl⟩ := h
      simpa using place_get hj'

theorem place_of : ∀ {ids : List Nat} {i j : Nat}, ids.Nodup → ids[j]? = some i → place ids i = some j
  | [], _, _, _, h => by simp at h
  | x :: xs, i, j, hn, h => by
    rw [List.nodup_cons] at hn
    cases j with
    | zero => simp at h; subst h; simp [place]
    | succ j =>
      simp only [List.getElem?_cons_succ] at h
      have hne : x ≠ i := fun e => hn.1 (e ▸ List.mem_of_getElem? h)
      simp [place, hne, place_of hn.2 h]

theorem place_none : ∀ {ids : List Nat} {i : Nat}, place ids i = none → i ∉ ids
  | [], _, _ => by simp
  | x :: xs, i, h => by
    simp only [place] at h
    split at h
    · cases h
    · rename_i e
      simp only [Option.map_eq_none_iff] at h
      simp only [List.mem_cons, not_or]
      exact ⟨fun e' => e e'.symm, place_none h⟩

theorem setAll_get {α : Type} : ∀ (ids : List Nat) (os l : List α), ids.Nodup → (∀ i ∈ ids, i < l.length) → ids.length ≤ os.length →
    (setAll l ids os).length = l.length ∧ ∀ i, (setAll l ids os)[i]? = match place ids i with | some j => os[j]? | none => l[i]?
  | [], os, l, _, _, _ => by cases os <;> exact ⟨rfl, fun i => rfl⟩
  | x :: ids, [], l, _, _, hl => by simp at hl
  | x :: ids, o :: os, l, hn, hlt, hl => by
    rw [List.nodup_cons] at hn
    obtain ⟨h1, h2⟩ := setAll_get ids os (l.set x o) hn.2 (fun i hi => by simpa using hlt i (by simp [hi])) (by simpa using hl)
    refine ⟨by simp [setAll, h1], fun i => ?_⟩
    simp only [setAll, h2, place]
    by_cases e : x = i
    · subst e
      have : place ids x = none := by
        cases hp : place ids x with
        | none => rfl
        | some j => exact absurd (List.mem_of_getElem? (place_get hp)) hn.1
      simp [this, hlt x (by simp)]
    · rw [if_neg e]
      cases hp : place ids i with
      | none => simp [e]
      | some j => simp

/-! ### renaming keeps what stands for what -/

structure RenOk (X X' : Nat → Nat → Prop) (f : Nat → Option Nat) (ρ : Places) (h : List Obj) (ρ2 : Places) (h2 : List Obj) : Prop where
  fwd : ∀ (i j : Nat), f i = some j → ∀ (o : Obj), h[i]? = some o → ∃ o', h2[j]? = some o' ∧ Obj.ren f o = some o' ∧ ρ2[j]? = ρ[i]?
  mu : ∀ b j, Mut X' ρ2 h2 b j → Mut X ρ h b j

section
variable {X X' : Nat → Nat → Prop} {f : Nat → Option Nat} {ρ ρ2 : Places} {h h2 : List Obj} {w : World}

theorem RenOk.rep (R : RenOk X X' f ρ h ρ2 h2) {v : Value} {x : D} (hr : Rep (Mut X ρ h) w v x) : Rep (Mut X' ρ2 h2) w v x := hr.mono fun b j _ hm hc => ⟨hc, fun h' => hm (R.mu b j h')⟩

theorem ren_isArr {o o' : Obj} (hr : Obj.ren f o = some o') : o'.isArr = o.isArr := by
  cases o with
  | box cs => simp only [Obj.ren, Option.map_eq_some_iff] at hr; obtain ⟨cs', _, rfl⟩ := hr; rfl
  | arr _ _ _ => simp only [Obj.ren, Option.some.injEq] at hr; subst hr; rfl
  | siter _ _ => simp only [Obj.ren, Option.some.injEq] at hr; subst hr; rfl

theorem V0.ren (R : RenOk X X' f ρ h ρ2 h2) {v : Value} {x y : V} (hv : V0 X ρ h w v x) (hr : V.ren0 f x = some y) : V0 X' ρ2 h2 w v y := by
  cases x with
  | d x => simp only [V.ren0, Option.some.injEq] at hr; subst hr; exact R.rep hv
  | nilS => simp only [V.ren0, Option.some.injEq] at hr; subst hr; exact hv
  | arr id n =>
    simp only [V.ren0, Option.map_eq_some_iff] at hr
    obtain ⟨i, hi, rfl⟩ := hr
    obtain ⟨h1, sz, xs, wm, r, h3, h4, h5, h6⟩ := hv
    obtain ⟨o', e1, e2, e3⟩ := R.fwd _ _ hi _ h3
    simp only [Obj.ren, Option.some.injEq] at e2; subst e2
    exact ⟨h1, sz, xs, wm, r, e1, e3.trans h4, h5, h6⟩
  | ptr id o =>
    simp only [V.ren0, Option.map_eq_some_iff] at hr
    obtain ⟨i, hi, rfl⟩ := hr
    obtain ⟨ob, b, c, h1, h3, h4, h5⟩ := hv
    obtain ⟨o', e1, e2, e3⟩ := R.fwd _ _ hi _ h1
    exact ⟨o', b, c, e1, (ren_isArr e2).trans h3, e3.trans h4, h5⟩
  | eptr id n i o =>
    simp only [V.ren0, Option.map_eq_some_iff] at hr
    obtain ⟨j, hj, rfl⟩ := hr
    obtain ⟨h1, sz, xs, wm, r, h3, h4, h5, h6⟩ := hv
    obtain ⟨o', e1, e2, e3⟩ := R.fwd _ _ hj _ h3
    simp only [Obj.ren, Option.some.injEq] at e2; subst e2
    exact ⟨h1, sz, xs, wm, r, e1, e3.trans h4, h5, h6⟩
  | ro cs =>
    simp only [V.ren0, Option.some.injEq] at hr; subst hr
    exact RoVal.mono (fun b j _ hm hc => ⟨hc, fun h' => hm (R.mu b j h')⟩) hv
  | dead => simp only [V.ren0, Option.some.injEq] at hr; subst hr; trivial
  | mp _ => exact hv.elim
  | clo _ _ => simp [V.ren0] at hr
  | agg _ => simp [V.ren0] at hr
  | tup _ => simp [V.ren0] at hr

theorem mapM_get' {α β : Type} {f : α → Option β} {l : List α} {r : List β} (hm : l.mapM f = some r) : r.length = l.length ∧ ∀ (j : Nat) (a : α), l[j]? = some a → ∃ b, r[j]? = some b ∧ f a = some b := by
  obtain ⟨h1, h2⟩ := mapM_get hm
  refine ⟨h1, fun j a hj => ?_⟩
  have hlt : j < r.length := by rw [h1]; exact lt_of_getElem? hj
  obtain ⟨a', h3, h4⟩ := h2 j r[j] (by simp [hlt])
  rw [hj] at h3; cases h3
  exact ⟨_, by simp [hlt], h4⟩

theorem V1.ren (R : RenOk X X' f ρ h ρ2 h2) {v : Value} {x y : V} (hv : V1 X ρ h w v x) (hr : V.ren1 f x = some y) : V1 X' ρ2 h2 w v y := by
  have key : V0 X ρ h w v x → V.ren0 f x = some y → V1 X' ρ2 h2 w v y := fun a b => by
    have := V0.ren R a b
    cases y with
    | clo _ _ => exact this.elim
    | _ => exact this
  cases x with
  | clo g caps =>
    simp only [V.ren1, Option.map_eq_some_iff] at hr
    obtain ⟨caps', hc, rfl⟩ := hr
    obtain ⟨us, h1, h2', h3⟩ := hv
    obtain ⟨e1, e2⟩ := mapM_get hc
    refine ⟨us, h1, by omega, fun j c hj => ?_⟩
    obtain ⟨a, ha, hac⟩ := e2 j c hj
    obtain ⟨u, hu, hua⟩ := h3 j a ha
    exact ⟨u, hu, hua.ren R hac⟩
  | d _ => exact key hv hr
  | nilS => exact key hv hr
  | arr _ _ => exact key hv hr
  | ptr _ _ => exact key hv hr
  | eptr _ _ _ _ => exact key hv hr
  | ro _ => exact key hv hr
  | mp _ => exact key hv hr
  | agg _ => exact key hv hr
  | tup _ => exact key hv hr
  | dead => exact key hv hr

theorem ren0_cellOk {x y : V} (hr : V.ren0 f x = some y) : y.cellOk = x.cellOk := by
  cases x <;> simp only [V.ren0, Option.map_eq_some_iff, Option.some.injEq, reduceCtorEq] at hr <;> first
    | (obtain ⟨_, _, rfl⟩ := hr; rfl)
    | (subst hr; rfl)

theorem ren1_cellOk {x y : V} (hr : V.ren1 f x = some y) : y.cellOk = x.cellOk := by
  cases x with
  | clo g caps => simp only [V.ren1, Option.map_eq_some_iff] at hr; obtain ⟨_, _, rfl⟩ := hr; rfl
  | _ => exact ren0_cellOk (f := f) hr

theorem V2.ren (R : RenOk X X' f ρ h ρ2 h2) {v : Value} {x y : V} (hv : V2 X ρ h w v x) (hr : V.ren2 f x = some y) : V2 X' ρ2 h2 w v y := by
  have key : V1 X ρ h w v x → V.ren1 f x = some y → V2 X' ρ2 h2 w v y := fun a b => (V1.ren R a b).v2
  cases x with
  | agg cs =>
    simp only [V.ren2, Option.map_eq_some_iff] at hr
    obtain ⟨cs', hc, rfl⟩ := hr
    obtain ⟨us, h1, h2', h3⟩ := hv
    obtain ⟨e1, e2⟩ := mapM_get hc
    refine ⟨us, h1, by omega, fun j c hj => ?_⟩
    obtain ⟨a, ha, hac⟩ := e2 j c hj
    obtain ⟨u, hu, hua, hok⟩ := h3 j a ha
    exact ⟨u, hu, hua.ren R hac, (ren1_cellOk hac).trans hok⟩
  | d _ => exact key hv hr
  | nilS => exact key hv hr
  | arr _ _ => exact key hv hr
  | ptr _ _ => exact key hv hr
  | eptr _ _ _ _ => exact key hv hr
  | ro _ => exact key hv hr
  | mp _ => exact key hv hr
  | clo _ _ => exact key hv hr
  | tup _ => exact key hv hr
  | dead => exact key hv hr

theorem VRel.ren (R : RenOk X X' f ρ h ρ2 h2) {v : Value} {x y : V} (hv : VRel X ρ h w v x) (hr : V.ren f x = some y) : VRel X' ρ2 h2 w v y := by
  have key : V2 X ρ h w v x → V.ren2 f x = some y → VRel X' ρ2 h2 w v y := fun a b => (V2.ren R a b).vrel
  cases x with
  | tup vs =>
    simp only [V.ren, Option.map_eq_some_iff] at hr
    obtain ⟨vs', hc, rfl⟩ := hr
    obtain ⟨us, h1, h2', h3⟩ := hv
    obtain ⟨e1, e2⟩ := mapM_get hc
    refine ⟨us, h1, by omega, fun j c hj => ?_⟩
    obtain ⟨a, ha, hac⟩ := e2 j c hj
    obtain ⟨u, hu, hua⟩ := h3 j a ha
    exact ⟨u, hu, hua.ren R hac⟩
  | d _ => exact key hv hr
  | nilS => exact key hv hr
  | arr _ _ => exact key hv hr
  | ptr _ _ => exact key hv hr
  | eptr _ _ _ _ => exact key hv hr
  | ro _ => exact key hv hr
  | mp _ => exact key hv hr
  | clo _ _ => exact key hv hr
  | agg _ => exact key hv hr
  | dead => exact key hv hr

theorem ObjRel.ren (R : RenOk X X' f ρ h ρ2 h2) {r : Place} {o o' : Obj} (ho : ObjRel X ρ h w r o) (hr : Obj.ren f o = some o') : ObjRel X' ρ2 h2 w r o' := by
  cases o with
  | box cs =>
    simp only [Obj.ren, Option.map_eq_some_iff] at hr
    obtain ⟨cs', hc, rfl⟩ := hr
    obtain ⟨b, c, cur, e, fz, h1, h2', h3, h4, h5⟩ := ho
    obtain ⟨e1, e2⟩ := mapM_get hc
    refine ⟨b, c, cur, e, fz, h1, h2', by omega, h4, fun j x hj => ?_⟩
    obtain ⟨a, ha, hac⟩ := e2 j x hj
    obtain ⟨u, hu, hua, hok⟩ := h5 j a ha
    exact ⟨u, hu, hua.ren R hac, (ren1_cellOk hac).trans hok⟩
  | arr sz xs wm =>
    simp only [Obj.ren, Option.some.injEq] at hr; subst hr
    refine ⟨ho.1, ?_⟩
    have h2' := ho.2
    cases r with
    | none => exact h2'
    | some p =>
      obtain ⟨b, cap⟩ := p
      obtain ⟨cur, e, fz, k1, k2, k3, k4, k5, k6, k7, k8⟩ := h2'
      exact ⟨cur, e, fz, k1, k2, k3, k4, k5, k6, k7, fun j x hj => let ⟨u, m1, m2, m3⟩ := k8 j x hj; ⟨u, m1, R.rep m2, m3⟩⟩
  | siter s pos => simp only [Obj.ren, Option.some.injEq] at hr; subst hr; exact ho

theorem ren_mutAt {o o' : Obj} (hr : Obj.ren f o = some o') (j : Nat) : o'.mutAt j ↔ o.mutAt j := by
  cases o with
  | box cs => simp only [Obj.ren, Option.map_eq_some_iff] at hr; obtain ⟨cs', _, rfl⟩ := hr; exact Iff.rfl
  | arr _ _ _ => simp only [Obj.ren, Option.some.injEq] at hr; subst hr; exact Iff.rfl
  | siter _ _ => simp only [Obj.ren, Option.some.injEq] at hr; subst hr; exact Iff.rfl

theorem ren_evo {g : Nat → Option Nat} {o o1 o2 o3 : Obj} {r r' : Place} (h1 : Obj.ren f o = some o1) (h2 : EvoObj o1 o2 r r') (h3 : Obj.ren g o2 = some o3) : EvoObj o o3 r r' := by
  cases o with
  | box cs =>
    simp only [Obj.ren, Option.map_eq_some_iff] at h1
    obtain ⟨cs1, hc1, rfl⟩ := h1
    cases o2 with
    | box cs2 =>
      simp only [Obj.ren, Option.map_eq_some_iff] at h3
      obtain ⟨cs3, hc3, rfl⟩ := h3
      exact ⟨by rw [(mapM_get hc3).1, h2.1, (mapM_get hc1).1], h2.2⟩
    | arr _ _ _ => exact h2.elim
    | siter _ _ => exact h2.elim
  | arr _ _ _ =>
    simp only [Obj.ren, Option.some.injEq] at h1; subst h1
    cases o2 with
    | box cs2 => exact h2.elim
    | arr _ _ _ => simp only [Obj.ren, Option.some.injEq] at h3; subst h3; exact h2
    | siter _ _ => exact h2.elim
  | siter _ _ =>
    simp only [Obj.ren, Option.some.injEq] at h1; subst h1
    cases o2 with
    | box cs2 => exact h2.elim
    | arr _ _ _ => exact h2.elim
    | siter _ _ => simp only [Obj.ren, Option.some.injEq] at h3; subst h3; exact h2

/-! ### a part of the objects -/

def subPlaces (ρ : Places) (ids : List Nat) : Places := ids.map fun i => (ρ[i]?).getD none

/-- The cells of the other objects that may be written. -/
def others (X : Nat → Nat → Prop) (ρ : Places) (h : List Obj) (ids : List Nat) (b j : Nat) : Prop :=
  X b j ∨ ∃ (id c : Nat) (o : Obj), id ∉ ids ∧ ρ[id]? = some (some (b, c)) ∧ h[id]? = some o ∧ o.mutAt j

theorem takeObjs_spec {ids : List Nat} (ht : takeObjs h f ids = some h2) : h2.length = ids.length ∧ ∀ (j : Nat) (o' : Obj), h2[j]? = some o' → ∃ i o, ids[j]? = some i ∧ h[i]? = some o ∧ Obj.ren f o = some o' := by
  obtain ⟨h1, h2'⟩ := mapM_get ht
  refine ⟨h1, fun j o' hj => ?_⟩
  obtain ⟨i, hi, hb⟩ := h2' j o' hj
  simp only [Option.bind_eq_some_iff] at hb
  obtain ⟨o, ho, hr⟩ := hb
  exact ⟨i, o, hi, ho, hr⟩

theorem sub_get (H : HRel X ρ h w) {ids : List Nat} {i j : Nat} {o : Obj} (hi : ids[j]? = some i) (ho : h[i]? = some o) : (subPlaces ρ ids)[j]? = ρ[i]? := by
  obtain ⟨r, hr, _⟩ := H.obj i o ho
  simp [subPlaces, hi, hr]

/-- Some of the objects, under the numbers of their places; the cells of the others are foreign (or not: Y is between). -/
theorem sub_rel (H : HRel X ρ h w) {ids : List Nat} (hn : ids.Nodup) (ht : takeObjs h (place ids) ids = some h2) {Y : Nat → Nat → Prop} (hY : ∀ b j, Y b j → others X ρ h ids b j) :
    RenOk X Y (place ids) ρ h (subPlaces ρ ids) h2 ∧ HRel Y (subPlaces ρ ids) h2 w := by
  obtain ⟨t1, t2⟩ := takeObjs_spec ht
  have hget : ∀ (j : Nat) (r : Place), (subPlaces ρ ids)[j]? = some r → ∃ i, ids[j]? = some i ∧ ρ[i]? = some r := fun j r hj => by
    have hlt : j < h2.length := by rw [t1]; simpa [subPlaces] using lt_of_getElem? hj
    obtain ⟨i, o, hi, ho, _⟩ := t2 j h2[j] (by simp [hlt])
    rw [sub_get H hi ho] at hj
    exact ⟨i, hi, hj⟩
  have hmu : ∀ b j, Mut Y (subPlaces ρ ids) h2 b j → Mut X ρ h b j := by
    rintro b j (hX | ⟨id, c, o, m1, m2, m3⟩)
    · rcases hY b j hX with hX | ⟨id, c, o, _, m1, m2, m3⟩
      · exact .inl hX
      · exact .inr ⟨id, c, o, m1, m2, m3⟩
    · obtain ⟨i, o0, hi, ho0, hr⟩ := t2 id o m2
      rw [sub_get H hi ho0] at m1
      exact .inr ⟨i, c, o0, m1, ho0, (ren_mutAt hr j).1 m3⟩
  have R : RenOk X Y (place ids) ρ h (subPlaces ρ ids) h2 := ⟨fun i j hp o ho => by
    have hi := place_get hp
    have hlt : j < h2.length := by rw [t1]; exact lt_of_getElem? hi
    obtain ⟨i', o', hi', ho', hr⟩ := t2 j h2[j] (by simp [hlt])
    rw [hi] at hi'; cases hi'
    rw [ho] at ho'; cases ho'
    exact ⟨_, by simp [hlt], hr, sub_get H hi ho⟩, hmu⟩
  refine ⟨R, ⟨by simp [subPlaces, t1], fun id o' ho' => ?_, fun b j hX => ?_, fun id b c j hid => ?_, fun i j b c c' hi hj => ?_⟩⟩
  · obtain ⟨i, o, hi, ho, hr⟩ := t2 id o' ho'
    obtain ⟨r, hr1, hr2⟩ := H.obj i o ho
    exact ⟨r, (sub_get H hi ho).trans hr1, hr2.ren R hr⟩
  · rcases hY b j hX with hX | ⟨id, c, o, _, m1, m2, m3⟩
    · exact H.xlt b j hX
    · exact H.lt m1
  · obtain ⟨i, hi, hr⟩ := hget id _ hid
    intro hYb
    rcases hY b j hYb with hX | ⟨id', c', o, hni, m1, m2, m3⟩
    · exact H.xown i b c j hr hX
    · have := H.inj _ _ b _ _ hr m1
      subst this
      exact hni (List.mem_of_getElem? hi)
  · obtain ⟨i1, hi1, hr1⟩ := hget i _ hi
    obtain ⟨j1, hj1, hr2⟩ := hget j _ hj
    have := H.inj _ _ b c c' hr1 hr2
    subst this
    have h3 := place_of hn hi1
    have h4 := place_of hn hj1
    rw [h3] at h4
    simpa using h4

end
end Go.Am
