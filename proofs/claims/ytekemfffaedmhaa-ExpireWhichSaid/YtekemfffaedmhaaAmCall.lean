/- A call, from the caller's side: its arguments, the objects that it reaches, and what comes back. -/
import Derived.Test.YtekemfffaedmhaaAmRen
set_option linter.all false
namespace Go.Am

/-- Results as one value. -/
def oneVal : List Value → Value
  | [v] => v
  | vs => .tuple vs.toArray

def RetRel (X : Nat → Nat → Prop) (ρ : Places) (h : List Obj) (w : World) (rv : Value) (rets : List V) : Prop :=
  ∃ us : List Value, us.length = rets.length ∧ (∀ (j : Nat) (R : V), rets[j]? = some R → ∃ u, us[j]? = some u ∧ V2 X ρ h w u R) ∧ rv = oneVal us

def ArgRel (X : Nat → Nat → Prop) (ρ : Places) (h : List Obj) (w : World) (vs : List Value) (args : List V) : Prop :=
  vs.length = args.length ∧ ∀ (j : Nat) (A : V), args[j]? = some A → ∃ v, vs[j]? = some v ∧ VRel X ρ h w v A

/-- Whatever comes of a run comes of the call. -/
def RunOk (P : Program) (G : Nat → Option (List D)) (run : Run) : Prop :=
  ∀ (f : FuncId) (args : List V) (h : List Obj) (rets : List V) (h' : List Obj), run f args h = some (rets, h') →
    ∀ (X : Nat → Nat → Prop) (ρ : Places) (w : World) (vs : List Value), HRel X ρ h w → GRel X G ρ h w → ArgRel X ρ h w vs args →
      Calls P f vs.toArray w fun e w' => ∃ ρ' rv, e = .returned rv ∧ Stp X ρ h w ρ' h' w' ∧ RetRel X ρ' h' w' rv rets

/-- What is run is a function with a body. -/
def RunHas (P : Program) (run : Run) : Prop :=
  ∀ (f : FuncId) (args : List V) (h : List Obj) (r : List V × List Obj), run f args h = some r → ∃ fn, P.funcs[f]? = some fn ∧ (fn.name == "runtime.NumGoroutine") = false ∧ fn.body.isNone = false

theorem callWith_has {P : Program} {run : Run} {f : FuncId} {args : List V} {h : List Obj} {r : V × List Obj} (hh : RunHas P run) (hx : callWith run f args h = some r) :
    ∃ fn, P.funcs[f]? = some fn ∧ (fn.name == "runtime.NumGoroutine") = false ∧ fn.body.isNone = false := by
  unfold callWith at hx
  split at hx
  · cases hx
  · simp only at hx
    split at hx
    · split at hx
      · rename_i hr
        exact hh _ _ _ _ hr
      · cases hx
    · cases hx

section
variable {X : Nat → Nat → Prop} {ρ ρ' : Places} {h h' : List Obj} {w w' : World} {P : Program} {G : Nat → Option (List D)}

theorem argV_sound {v : Value} {A A' : V} (ha : argV h A = some (A', h')) (H : HRel X ρ h w) (hv : VRel X ρ h w v A) : Stp X ρ h w ρ h' w ∧ VRel X ρ h' w v A' := by
  unfold argV at ha
  split at ha
  · simp only [Option.some.injEq, Prod.mk.injEq] at ha; obtain ⟨rfl, rfl⟩ := ha; exact ⟨Stp.refl H, hv⟩
  · simp only [Option.some.injEq, Prod.mk.injEq] at ha; obtain ⟨rfl, rfl⟩ := ha; exact ⟨Stp.refl H, hv⟩
  · simp only [Option.some.injEq, Prod.mk.injEq] at ha; obtain ⟨rfl, rfl⟩ := ha; exact ⟨Stp.refl H, hv⟩
  · simp only [Option.some.injEq, Prod.mk.injEq] at ha; obtain ⟨rfl, rfl⟩ := ha; exact ⟨Stp.refl H, hv⟩
  · simp only [Option.map_eq_some_iff, Prod.exists, Prod.mk.injEq] at ha
    obtain ⟨x, h1, hp, rfl, rfl⟩ := ha
    obtain ⟨st, hr⟩ := pureV_sound hp H hv
    exact ⟨st, hr⟩

theorem argVs_sound : ∀ (args : List V) (h : List Obj) (vs : List Value) (as : List V) (h' : List Obj), argVs h args = some (as, h') → HRel X ρ h w → ArgRel X ρ h w vs args →
    Stp X ρ h w ρ h' w ∧ ArgRel X ρ h' w vs as
  | [], h, vs, as, h', ha, H, hv => by
    simp only [argVs, Option.some.injEq, Prod.mk.injEq] at ha; obtain ⟨rfl, rfl⟩ := ha
    exact ⟨Stp.refl H, hv⟩
  | A :: args, h, vs, as, h', ha, H, hv => by
    simp only [argVs] at ha
    split at ha
    · rename_i A' h1 h1e
      split at ha
      · rename_i as' h2 h2e
        simp only [Option.some.injEq, Prod.mk.injEq] at ha; obtain ⟨rfl, rfl⟩ := ha
        obtain ⟨hl, hg⟩ := hv
        cases vs with
        | nil => simp at hl
        | cons v vs =>
          obtain ⟨v', hv1, hv2⟩ := hg 0 A (by simp)
          simp at hv1; subst hv1
          obtain ⟨s1, r1⟩ := argV_sound h1e H hv2
          obtain ⟨s2, l2, r2⟩ := argVs_sound args h1 vs as' h2 h2e s1.rel ⟨by simpa using hl, fun j B hj => by
            obtain ⟨u, hu1, hu2⟩ := hg (j + 1) B (by simpa using hj)
            exact ⟨u, by simpa using hu1, s1.vrel hu2⟩⟩
          refine ⟨s1.trans H s2, by simp [l2], fun j B hj => ?_⟩
          cases j with
          | zero => simp at hj; subst hj; exact ⟨v, by simp, s2.vrel r1⟩
          | succ j => simpa using r2 j B (by simpa using hj)
      · cases ha
    · cases ha

theorem ArgRel.ren {X' : Nat → Nat → Prop} {f : Nat → Option Nat} {ρ2 : Places} {h2 : List Obj} (R : RenOk X X' f ρ h ρ2 h2) {vs : List Value} {as as2 : List V} (ha : ArgRel X ρ h w vs as) (hm : as.mapM (V.ren f) = some as2) :
    ArgRel X' ρ2 h2 w vs as2 := by
  obtain ⟨e1, e2⟩ := mapM_get hm
  refine ⟨by rw [e1]; exact ha.1, fun j B hj => ?_⟩
  obtain ⟨A, hA, hr⟩ := e2 j B hj
  obtain ⟨v, h1, h2⟩ := ha.2 j A hA
  exact ⟨v, h1, h2.ren R hr⟩

theorem ren_ren2 {f : Nat → Option Nat} {x y : V} (hx : ∀ vs, x ≠ .tup vs) (hr : V.ren f x = some y) : V.ren2 f x = some y := by
  cases x with
  | tup vs => exact absurd rfl (hx vs)
  | _ => exact hr

theorem back_lt {ids : List Nat} {n j i : Nat} (hj : ids[j]? = some i) : back ids n j = some i := by simp [back, hj]
theorem back_ge {ids : List Nat} {n j : Nat} (hj : ids.length ≤ j) : back ids n j = some (n + (j - ids.length)) := by simp [back, List.getElem?_eq_none hj]

/-- What the callee has left, among the caller's objects. -/
theorem return_rel (H : HRel X ρ h w) {ids : List Nat} (hn : ids.Nodup) {h2 : List Obj} (ht : takeObjs h (place ids) ids = some h2) {ρ3 : Places} {h3 h3' : List Obj}
    (S : Stp (others X ρ h ids) (subPlaces ρ ids) h2 w ρ3 h3 w') (hm : h3.mapM (Obj.ren (back ids h.length)) = some h3') :
    Stp X ρ h w (setAll ρ ids ρ3 ++ ρ3.drop ids.length) (setAll h ids h3' ++ h3'.drop ids.length) w' ∧
    RenOk (others X ρ h ids) X (back ids h.length) ρ3 h3 (setAll ρ ids ρ3 ++ ρ3.drop ids.length) (setAll h ids h3' ++ h3'.drop ids.length) := by
  obtain ⟨R2, H2⟩ := sub_rel (Y := others X ρ h ids) H hn ht (fun _ _ h => h)
  obtain ⟨t1, t2⟩ := takeObjs_spec ht
  obtain ⟨m1, m2⟩ := mapM_get hm
  obtain ⟨_, m3⟩ := mapM_get' hm
  have hle : ids.length ≤ h3.length := by rw [← t1]; exact S.evo.le H2
  have hlen3 : ρ3.length = h3.length := S.rel.len
  have hidlt : ∀ i ∈ ids, i < h.length := fun i hi => by
    obtain ⟨j, hj⟩ := List.getElem?_of_mem hi
    have hlt : j < h2.length := by rw [t1]; exact lt_of_getElem? hj
    obtain ⟨i', o, hi', ho, _⟩ := t2 j h2[j] (by simp [hlt])
    rw [hj] at hi'; cases hi'
    exact lt_of_getElem? ho
  obtain ⟨a1, a2⟩ := setAll_get ids h3' h hn hidlt (by omega)
  obtain ⟨b1, b2⟩ := setAll_get ids ρ3 ρ hn (fun i hi => by rw [H.len]; exact hidlt i hi) (by omega)
  generalize hh4 : setAll h ids h3' ++ h3'.drop ids.length = h4
  generalize hρ4 : setAll ρ ids ρ3 ++ ρ3.drop ids.length = ρ4
  -- reading the two lists
  have getH : ∀ i, h4[i]? = if i < h.length then (match place ids i with | some j => h3'[j]? | none => h[i]?) else h3'[ids.length + (i - h.length)]? := fun i => by
    rw [← hh4]
    split
    · rename_i hi; rw [List.getElem?_append_left (by omega), a2]; cases place ids i <;> rfl
    · rename_i hi; rw [List.getElem?_append_right (by omega), a1, List.getElem?_drop]
  have getR : ∀ i, ρ4[i]? = if i < h.length then (match place ids i with | some j => ρ3[j]? | none => ρ[i]?) else ρ3[ids.length + (i - h.length)]? := fun i => by
    rw [← hρ4]
    have := H.len
    split
    · rename_i hi; rw [List.getElem?_append_left (by omega), b2]; cases place ids i <;> rfl
    · rename_i hi; rw [List.getElem?_append_right (by omega), b1, List.getElem?_drop, this]
  -- a callee's number
  have fwd : ∀ j i, back ids h.length j = some i → j < h3.length → h4[i]? = h3'[j]? ∧ ρ4[i]? = ρ3[j]? := fun j i hb hj => by
    rcases Nat.lt_or_ge j ids.length with h1 | h1
    · have hij : ids[j]? = some ids[j] := by simp [h1]
      rw [back_lt hij, Option.some.injEq] at hb
      subst hb
      have hlt := hidlt ids[j] (by simp)
      rw [getH, getR, if_pos hlt, if_pos hlt, place_of hn hij]
      exact ⟨rfl, rfl⟩
    · rw [back_ge h1, Option.some.injEq] at hb
      subst hb
      rw [getH, getR, if_neg (by omega), if_neg (by omega), show ids.length + (h.length + (j - ids.length) - h.length) = j by omega]
      exact ⟨rfl, rfl⟩
  -- every object of the result is a callee's, or one of the others
  have cases4 : ∀ i o, h4[i]? = some o → (∃ j, back ids h.length j = some i ∧ j < h3.length ∧ h3'[j]? = some o ∧ ρ4[i]? = ρ3[j]?) ∨ (i ∉ ids ∧ i < h.length ∧ h[i]? = some o ∧ ρ4[i]? = ρ[i]?) := fun i o ho => by
    rw [getH] at ho
    split at ho
    · rename_i hi
      cases hp : place ids i with
      | some j =>
        rw [hp] at ho
        have hij := place_get hp
        have hj3 : j < h3.length := by have := lt_of_getElem? ho; omega
        exact .inl ⟨j, back_lt hij, hj3, ho, by rw [getR, if_pos hi, hp]⟩
      | none =>
        rw [hp] at ho
        exact .inr ⟨place_none hp, hi, ho, by rw [getR, if_pos hi, hp]⟩
    · rename_i hi
      have hlt := lt_of_getElem? ho
      refine .inl ⟨ids.length + (i - h.length), ?_, by omega, ho, by rw [getR, if_neg hi]⟩
      rw [back_ge (by omega)]
      congr 1
      omega
  have len4 : ρ4.length = h4.length := by
    rw [← hh4, ← hρ4, List.length_append, List.length_append, a1, b1, List.length_drop, List.length_drop, m1, hlen3, H.len]
  have placeR : ∀ i r, ρ4[i]? = some r → (∃ j, back ids h.length j = some i ∧ j < h3.length ∧ ρ3[j]? = some r) ∨ (i ∉ ids ∧ i < h.length ∧ ρ[i]? = some r) := fun i r hr => by
    have hlt : i < h4.length := by rw [← len4]; exact lt_of_getElem? hr
    rcases cases4 i h4[i] (by simp [hlt]) with ⟨j, c1, c2, _, c4⟩ | ⟨c1, c2, _, c4⟩
    · exact .inl ⟨j, c1, c2, by rw [← c4, hr]⟩
    · exact .inr ⟨c1, c2, by rw [← c4, hr]⟩
  -- the other objects' blocks
  have otherBlock : ∀ i b c, i ∉ ids → ρ[i]? = some (some (b, c)) → (∀ (k c' : Nat), (subPlaces ρ ids)[k]? ≠ some (some (b, c'))) := fun i b c hi hr k c' hk => by
    have hlt : k < h2.length := by rw [t1]; simpa [subPlaces] using lt_of_getElem? hk
    obtain ⟨i', o, hi', ho, _⟩ := t2 k h2[k] (by simp [hlt])
    rw [sub_get H hi' ho] at hk
    have := H.inj _ _ b _ _ hr hk
    subst this
    exact hi (List.mem_of_getElem? hi')
  have hmu : ∀ b j, Mut X ρ4 h4 b j → Mut (others X ρ h ids) ρ3 h3 b j := by
    rintro b j (hX | ⟨id, c, o, k1, k2, k3⟩)
    · exact .inl (.inl hX)
    · rcases cases4 id o k2 with ⟨j', _, c2, c3, c4⟩ | ⟨c1, _, c3, c4⟩
      · obtain ⟨o3, ho3, hr3⟩ := m2 j' o c3
        exact .inr ⟨j', c, o3, by rw [← c4, k1], ho3, (ren_mutAt hr3 j).1 k3⟩
      · exact .inl (.inr ⟨id, c, o, c1, by rw [← c4, k1], c3, k3⟩)
  have R4 : RenOk (others X ρ h ids) X (back ids h.length) ρ3 h3 ρ4 h4 := ⟨fun j i hb o ho => by
    have hlt := lt_of_getElem? ho
    obtain ⟨o', ho', hr'⟩ := m3 j o ho
    obtain ⟨e1, e2⟩ := fwd j i hb hlt
    exact ⟨o', by rw [e1, ho'], hr', e2⟩, hmu⟩
  have F4 : Fr X ρ h w ρ4 h4 w' := by
    refine ⟨S.fr.os, S.fr.tape, S.fr.output, S.fr.size, fun b hb hno => ?_, fun b j v hnm hc => ?_⟩
    · obtain ⟨e1, e2⟩ := S.fr.block b hb fun k c hk => by
        have hlt : k < h2.length := by rw [t1]; simpa [subPlaces] using lt_of_getElem? hk
        obtain ⟨i', o, hi', ho, _⟩ := t2 k h2[k] (by simp [hlt])
        rw [sub_get H hi' ho] at hk
        exact hno i' c hk
      refine ⟨e1, fun id c hid => ?_⟩
      rcases placeR id _ hid with ⟨j, _, _, c3⟩ | ⟨_, _, c3⟩
      · exact e2 j c c3
      · exact hno id c c3
    · obtain ⟨e1, e2⟩ := S.fr.imm b j v (fun hm' => hnm (R2.mu b j hm')) hc
      exact ⟨e1, fun hm' => e2 (hmu b j hm')⟩
  have E4 : Evo h.length ρ h ρ4 h4 := fun id o r hid ho hr => by
    rw [getH, getR, if_pos hid, if_pos hid]
    cases hp : place ids id with
    | none => exact ⟨o, r, ho, hr, EvoObj.refl _ _⟩
    | some j =>
      have hij := place_get hp
      have hj2 : j < h2.length := by rw [t1]; exact lt_of_getElem? hij
      obtain ⟨i', o', hi', ho', hren⟩ := t2 j h2[j] (by simp [hj2])
      rw [hij] at hi'; cases hi'
      rw [ho] at ho'; cases ho'
      have hrj : (subPlaces ρ ids)[j]? = some r := by rw [sub_get H hij ho, hr]
      obtain ⟨o3, r3, g1, g2, g3⟩ := S.evo j h2[j] r hj2 (by simp [hj2]) hrj
      obtain ⟨o4, ho4, hr4⟩ := m3 j o3 g1
      exact ⟨o4, r3, ho4, g2, ren_evo hren g3 hr4⟩
  refine ⟨⟨⟨len4, fun id o ho => ?_, fun b j hX => Nat.lt_of_lt_of_le (H.xlt b j hX) S.fr.size, fun id b c j hid hX => ?_, fun i j b c c' hi hj => ?_⟩, F4, E4⟩, R4⟩
  · rcases cases4 id o ho with ⟨j, _, c2, c3, c4⟩ | ⟨c1, c2, c3, c4⟩
    · obtain ⟨o3, ho3, hr3⟩ := m2 j o c3
      obtain ⟨r, g1, g2⟩ := S.rel.obj j o3 ho3
      exact ⟨r, by rw [c4, g1], g2.ren R4 hr3⟩
    · obtain ⟨r, g1, g2⟩ := H.obj id o c3
      refine ⟨r, by rw [c4, g1], g2.kept F4 E4 fun b c hbc => ?_⟩
      subst hbc
      exact (S.fr.block b (H.lt g1) (otherBlock id b c c1 g1)).1
  · rcases placeR id _ hid with ⟨j', _, _, c3⟩ | ⟨_, _, c3⟩
    · exact S.rel.xown j' b c j c3 (.inl hX)
    · exact H.xown id b c j c3 hX
  · have mixed : ∀ i j b c c', i ∉ ids → ρ[i]? = some (some (b, c)) → ρ3[j]? = some (some (b, c')) → False := fun i j b c c' hi h1 h3' =>
      (S.fr.block b (H.lt h1) (otherBlock i b c hi h1)).2 j c' h3'
    rcases placeR i _ hi with ⟨i', c1, c2, c3⟩ | ⟨c1, c2, c3⟩ <;> rcases placeR j _ hj with ⟨j', d1, d2, d3⟩ | ⟨d1, d2, d3⟩
    · have := S.rel.inj _ _ b _ _ c3 d3
      subst this
      rw [c1] at d1
      simpa using d1
    · exact (mixed j i' b c' c d1 d3 c3).elim
    · exact (mixed i j' b c c' c1 c3 d3).elim
    · exact H.inj _ _ b _ _ c3 d3

theorem callWith_sound {run : Run} {f : FuncId} {args : List V} {x : V} {vs : List Value} (hrun : RunOk P G run) (hx : callWith run f args h = some (x, h')) (H : HRel X ρ h w) (hg : GRel X G ρ h w) (ha : ArgRel X ρ h w vs args) :
    Calls P f vs.toArray w fun e w' => ∃ ρ' rv, e = .returned rv ∧ Stp X ρ h w ρ' h' w' ∧ VRel X ρ' h' w' rv x := by
  unfold callWith at hx
  split at hx
  · cases hx
  · rename_i as h1 hargs
    obtain ⟨s1, a1⟩ := argVs_sound args h vs as h1 hargs H ha
    have H1 := s1.rel
    generalize hids : reach h1 (addIds [] (as.flatMap V.ids)) = ids at hx
    have hn : ids.Nodup := by rw [← hids]; exact reach_nodup _ (addIds_nodup _ _ (by simp))
    simp only at hx
    split at hx
    · rename_i as2 hin hm ht
      split at hx
      · rename_i rets hout hr
        split at hx
        · rename_i rets2 hout2 hmr hmo
          simp only [Option.some.injEq, Prod.mk.injEq] at hx
          obtain ⟨rfl, rfl⟩ := hx
          obtain ⟨R2, H2⟩ := sub_rel (Y := others X ρ h1 ids) H1 hn ht (fun _ _ h => h)
          have g2 : GRel (others X ρ h1 ids) G (subPlaces ρ ids) hin w := fun g cs e => RoVal.mono (fun b j _ hm hc => ⟨hc, fun h' => hm (R2.mu b j h')⟩) (hg.mono s1.fr g cs e)
          refine (hrun f as2 hin rets hout hr (others X ρ h1 ids) _ w vs H2 g2 (a1.ren R2 hm)).mono ?_
          rintro e w' ⟨ρ3, rv, rfl, S, us, l1, l2, l3⟩
          obtain ⟨S4, R4⟩ := return_rel H1 hn ht S hmo
          refine ⟨_, rv, rfl, s1.trans H S4, ?_⟩
          obtain ⟨e1, e2⟩ := mapM_get hmr
          have hu : ∀ (j : Nat) (R : V), rets2[j]? = some R → ∃ u, us[j]? = some u ∧ V2 X (setAll ρ ids ρ3 ++ ρ3.drop ids.length) (setAll h1 ids hout2 ++ hout2.drop ids.length) w' u R := fun j R hj => by
            obtain ⟨A, hA, hAr⟩ := e2 j R hj
            obtain ⟨u, hu1, hu2⟩ := l2 j A hA
            refine ⟨u, hu1, V2.ren R4 hu2 (ren_ren2 (fun vs e => ?_) hAr)⟩
            subst e
            exact hu2.elim
          have hl : us.length = rets2.length := by omega
          subst l3
          match us, rets2, hl, hu with
          | [], [], _, _ => exact ⟨_, rfl, by simp, fun j c hj => by simp at hj⟩
          | [u], [R], _, hu =>
            obtain ⟨u', h1, h2⟩ := hu 0 R (by simp)
            simp at h1; subst h1
            exact h2.vrel
          | u :: u' :: us, R :: R' :: rets2, hl, hu =>
            exact ⟨_, rfl, by simpa using hl, fun j c hj => by simpa using hu j c hj⟩
        · cases hx
      · cases hx
    · cases hx

end
end Go.Am
