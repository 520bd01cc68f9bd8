/- One operation of the code. -/
import Derived.Test.YtekemfffaedmhaaAmCall
import Derived.Orders
set_option linter.all false
namespace Go.Am
section
variable {X : Nat → Nat → Prop} {ρ ρ' : Places} {h h' : List Obj} {w w' : World} {P : Program} {G : Nat → Option (List D)}

theorem run_callFunc {f : FuncId} {fn : Func} (hf : P.funcs[f]? = some fn) (hname : (fn.name == "runtime.NumGoroutine") = false) (hb : fn.body.isNone = false) (args : Array Value) :
    (callFunc f args).run P w = .ok (.enter f args) w := by
  simp only [callFunc, Sem.run_bind, run_program, Result.andThen_ok, hf, hname, hb, Bool.false_eq_true, if_false, Sem.run_pure]

/-- What the continuation is owed. -/
def Owed (X : Nat → Nat → Prop) (ρ : Places) (h : List Obj) (w : World) (a : Act) (dst : Option Tmp) (x : V) (h' : List Obj) (K : Act → World → Prop) : Prop :=
  ∀ v ρ' w', Stp X ρ h w ρ' h' w' → VRel X ρ' h' w' v x → K (a.put dst v) w'

theorem wp_value {o : Oper} {a : Act} {K : Act → World → Prop} {Q : Exit → Act → World → Prop} {x : V} {v : Value} (hr : (execOp a.eval o).run P w = .ok (.value v) w') (hs : Stp X ρ h w ρ' h' w') (hv : VRel X ρ' h' w' v x)
    (hk : Owed X ρ h w a o.dst x h' K) : o.wp P a w K Q := by
  unfold Oper.wp
  rw [hr]
  exact hk v ρ' w' hs hv

theorem evs_rel {a : Act} {s : Slots} (hg : GRel X G ρ h w) (hs : SRel X ρ h w a.tmps s) (xs : List Operand) : ArgRel X ρ h w (xs.map a.eval) (xs.map (ev G s)) :=
  ⟨by simp, fun j A hj => by
    simp only [List.getElem?_map, Option.map_eq_some_iff] at hj ⊢
    obtain ⟨x, hx, rfl⟩ := hj
    exact ⟨_, ⟨x, hx, rfl⟩, ev_rel hg hs x⟩⟩

theorem parts_rel {a : Act} {s : Slots} (hg : GRel X G ρ h w) (hs : SRel X ρ h w a.tmps s) (ps : List (Nat × Operand)) (j : Nat) (p : Nat × V) (hj : (ps.map fun p => (p.1, ev G s p.2))[j]? = some p) :
    ∃ u, (ps.map fun p => (p.1, a.eval p.2))[j]? = some (p.1, u) ∧ VRel X ρ h w u p.2 := by
  simp only [List.getElem?_map, Option.map_eq_some_iff] at hj ⊢
  obtain ⟨q, hq, rfl⟩ := hj
  exact ⟨_, ⟨q, hq, rfl⟩, ev_rel hg hs q.2⟩

theorem opt_rel {a : Act} {s : Slots} (hg : GRel X G ρ h w) (hs : SRel X ρ h w a.tmps s) (x : Option Operand) :
    (∀ A, x.map (ev G s) = some A → ∃ v, x.map a.eval = some v ∧ VRel X ρ h w v A) ∧ (x.map (ev G s) = none → x.map a.eval = none) := by
  cases x with
  | none => exact ⟨fun A e => (by cases e), fun _ => rfl⟩
  | some y => exact ⟨fun A e => (by simp only [Option.map_some, Option.some.injEq] at e; subst e; exact ⟨_, rfl, ev_rel hg hs y⟩), fun e => (by cases e)⟩

theorem builtinV_sound {b : Builtin} {ts : Array TypeId} {ty : TypeId} {cs : Array Bool} {args : List V} {vs : List Value} {x : V} (hx : builtinV P h b ts.toList args = some (x, h')) (H : HRel X ρ h w) (ha : ArgRel X ρ h w vs args) :
    ∃ v ρ' w', (builtin b ts ty cs vs.toArray).run P w = .ok (.value v) w' ∧ Stp X ρ h w ρ' h' w' ∧ VRel X ρ' h' w' v x := by
  obtain ⟨hl, hg⟩ := ha
  unfold builtinV at hx
  split at hx
  · rename_i t tr A Ar hts
    simp only [Option.map_eq_some_iff, Prod.mk.injEq] at hx
    obtain ⟨n, hn, rfl, rfl⟩ := hx
    obtain ⟨v, hv1, hv2⟩ := hg 0 A (by simp)
    have ht0 : ts[0]? = some t := by
      have : ts.toList[0]? = some t := by rw [hts]; rfl
      simpa using this
    have hr := lenV_sound (ty := ty) (ts := ts) (vs := vs.toArray) hn H hv2 ht0 (by simpa using hv1)
    exact ⟨_, ρ, w, by simp [builtin, hr], Stp.refl H, .int _ _⟩
  · rename_i t tx tr A B Ar hts
    obtain ⟨s, hs1, hs2⟩ := hg 0 A (by simp)
    obtain ⟨v, hv1, hv2⟩ := hg 1 B (by simp)
    obtain ⟨u, ρ', w', hr, st, hu⟩ := appendV_sound (ty := ty) hx H hs2 hv2
    refine ⟨u, ρ', w', ?_, st, hu⟩
    have h0 : ts[0]? = some t := by
      have : ts.toList[0]? = some t := by rw [hts]; rfl
      simpa using this
    have h1 : ts[1]? = some tx := by
      have : ts.toList[1]? = some tx := by rw [hts]; rfl
      simpa using this
    have hap : (Builtin.append_ ts ty vs.toArray) = Builtin.append_ #[t, tx] ty #[s, v] := by
      have e0 : vs.toArray[0]? = some s := by simpa using hs1
      have e1 : vs.toArray[1]? = some v := by simpa using hv1
      simp [Builtin.append_, h0, h1, e0, e1]
    simp [builtin, hap, hr]
  · rename_i A r
    simp only [Option.map_eq_some_iff, Prod.mk.injEq] at hx
    obtain ⟨z, hz, rfl, rfl⟩ := hx
    obtain ⟨v, hv1, hv2⟩ := hg 0 A (by simp)
    cases vs with
    | nil => simp at hv1
    | cons v' vs =>
      simp at hv1; subst hv1
      obtain ⟨u, hu, hu2⟩ := foldV_sound (P := P) (g := Builtin.min2) (fun A B x v u h1 h2 h3 => min2_sound h1 h2 h3) r vs A z v' hz hv2 (by simpa using hl) fun j c hj => by simpa using hg (j + 1) c (by simpa using hj)
      exact ⟨u, ρ, w, by simp [builtin, Builtin.min_, hu], Stp.refl H, hu2⟩
  · rename_i A r
    simp only [Option.map_eq_some_iff, Prod.mk.injEq] at hx
    obtain ⟨z, hz, rfl, rfl⟩ := hx
    obtain ⟨v, hv1, hv2⟩ := hg 0 A (by simp)
    cases vs with
    | nil => simp at hv1
    | cons v' vs =>
      simp at hv1; subst hv1
      obtain ⟨u, hu, hu2⟩ := foldV_sound (P := P) (g := Builtin.max2) (fun A B x v u h1 h2 h3 => max2_sound h1 h2 h3) r vs A z v' hz hv2 (by simpa using hl) fun j c hj => by simpa using hg (j + 1) c (by simpa using hj)
      exact ⟨u, ρ, w, by simp [builtin, Builtin.max_, hu], Stp.refl H, hu2⟩
  · cases hx

theorem withH_some {x : Option V} {y : V} (hx : withH h x = some (y, h')) : x = some y ∧ h' = h := by
  simp only [withH, Option.map_eq_some_iff] at hx
  obtain ⟨v, hv, e⟩ := hx
  cases e
  exact ⟨hv, rfl⟩

theorem calls_wp {o : Oper} {a : Act} {K : Act → World → Prop} {Q : Exit → Act → World → Prop} {run : Run} {f : FuncId} {args : List V} {vs : List Value} {x : V} (hrun : RunOk P G run) (hhas : RunHas P run)
    (hx : callWith run f args h = some (x, h')) (H : HRel X ρ h w) (hg : GRel X G ρ h w) (ha : ArgRel X ρ h w vs args) (hr : (execOp a.eval o).run P w = (callFunc f vs.toArray).run P w)
    (hk : Owed X ρ h w a o.dst x h' K) : o.wp P a w K Q := by
  obtain ⟨fn, h1, h2, h3⟩ := callWith_has hhas hx
  unfold Oper.wp
  rw [hr, run_callFunc h1 h2 h3]
  refine (callWith_sound hrun hx H hg ha).mono ?_
  rintro e w' ⟨ρ', rv, rfl, st, hv⟩
  exact hk rv ρ' w' st hv

theorem opV_sound {run : Run} {s : Slots} {o : Oper} {a : Act} {x : V} {K : Act → World → Prop} {Q : Exit → Act → World → Prop} (hrun : RunOk P G run) (hhas : RunHas P run) (hx : opV P G run s h o = some (x, h')) (H : HRel X ρ h w) (hg : GRel X G ρ h w)
    (hs : SRel X ρ h w a.tmps s) (hk : Owed X ρ h w a o.dst x h' K) : o.wp P a w K Q := by
  have E := fun y => ev_rel hg hs y
  unfold opV at hx
  split at hx
  · rename_i y ho
    simp only [Option.some.injEq, Prod.mk.injEq] at hx; obtain ⟨rfl, rfl⟩ := hx
    exact wp_value (by simp [execOp, ho]) (Stp.refl H) (E y) hk
  · rename_i y ho
    simp only [Option.some.injEq, Prod.mk.injEq] at hx; obtain ⟨rfl, rfl⟩ := hx
    exact wp_value (by simp [execOp, ho]) (Stp.refl H) (E y) hk
  · rename_i c y z ho
    obtain ⟨hy, rfl⟩ := withH_some hx
    obtain ⟨t, ht, hv⟩ := pickV_sound hy (E c) (E y) (E z)
    refine wp_value (v := if t then a.eval y else a.eval z) ?_ (Stp.refl H) hv hk
    cases t <;> simp [execOp, ho, ht, asBool]
  · rename_i t ho
    obtain ⟨v, ρ', w', hr, st, hv⟩ := allocV_sound hx H
    exact wp_value (by simp [execOp, ho, hr]) st hv hk
  · rename_i t y ho
    split at hx
    · rename_i hst
      simp only [Option.some.injEq, Prod.mk.injEq] at hx; obtain ⟨rfl, rfl⟩ := hx
      obtain ⟨v, ρ', w', hr, st, hv⟩ := box_sound (P := P) (t := t) hst H (E y)
      exact wp_value (by simp [execOp, ho, hr]) st hv hk
    · cases hx
  · rename_i t parts ho
    obtain ⟨hy, rfl⟩ := withH_some hx
    obtain ⟨v, hr, hv⟩ := buildV_sound (rp := parts.toList.map fun p => (p.1, a.eval p.2)) hy (by simp) (parts_rel hg hs parts.toList)
    refine wp_value ?_ (Stp.refl H) hv hk
    have e : (parts.map fun (i, x) => (i, a.eval x)) = (parts.toList.map fun p => (p.1, a.eval p.2)).toArray := by
      apply Array.ext'; simp
    simp only [execOp, ho, e, Sem.run_bind, hr, Result.andThen_ok, Sem.run_pure]
  · rename_i t len parts ho
    obtain ⟨v, ρ', w', hr, st, hv⟩ := buildSliceV_sound (rp := parts.toList.map fun p => (p.1, a.eval p.2)) hx H (by simp) (parts_rel hg hs parts.toList)
    refine wp_value ?_ st hv hk
    have e : (parts.map fun (i, x) => (i, a.eval x)) = (parts.toList.map fun p => (p.1, a.eval p.2)).toArray := by
      apply Array.ext'; simp
    simp only [execOp, ho, e, Sem.run_bind, hr, Result.andThen_ok, Sem.run_pure]
  · rename_i t y ho
    obtain ⟨hy, rfl⟩ := withH_some hx
    obtain ⟨v, hr, hv⟩ := loadV_sound hy H (E y)
    exact wp_value (by simp [execOp, ho, hr]) (Stp.refl H) hv hk
  · rename_i t y z ho
    simp only [Option.map_eq_some_iff, Prod.mk.injEq] at hx
    obtain ⟨h1, hx, rfl, rfl⟩ := hx
    obtain ⟨w', hr, st⟩ := storeV_sound hx H (E y) (E z)
    unfold Oper.wp
    have : (execOp a.eval o).run P w = .ok .skip w' := by simp [execOp, ho, hr]
    rw [this]
    exact hk undef ρ w' st ⟨#[], rfl, rfl, fun j c hj => by simp at hj⟩
  · rename_i y ho
    obtain ⟨rfl, ⟨ad, hp⟩, hv⟩ := nilCheckV_sound hx (E y)
    exact wp_value (v := a.eval y) (by simp [execOp, ho, hp]) (Stp.refl H) hv hk
  · rename_i op t y z yT ho
    obtain ⟨hy, rfl⟩ := withH_some hx
    simp only [Option.map_eq_some_iff] at hy
    obtain ⟨d, hd, rfl⟩ := hy
    obtain ⟨v, hr, hv⟩ := binD_sound (P := P) (Xo := y) (Yo := z) hd (E y) (E z)
    refine wp_value (x := .d d) (v := v) ?_ (Stp.refl H) hv hk
    simp only [execOp, ho]
    rw [Sem.run_bind, hr]
    rfl
  · rename_i op t y ho
    obtain ⟨hy, rfl⟩ := withH_some hx
    simp only [Option.map_eq_some_iff] at hy
    obtain ⟨d, hd, rfl⟩ := hy
    obtain ⟨v, hr, hv⟩ := unD_sound (P := P) hd (E y)
    exact wp_value (x := .d d) (v := v) (by simp [execOp, ho, hr]) (Stp.refl H) hv hk
  · rename_i src dst y ho
    obtain ⟨v, ρ', w', hr, st, hv⟩ := convV_sound hx H (E y)
    exact wp_value (by simp [execOp, ho, hr]) st hv hk
  · rename_i t y ho
    obtain ⟨st, v, hr, hv⟩ := ifaceV_sound hx H (E y)
    exact wp_value (by simp [execOp, ho, hr]) st hv hk
  · rename_i f first captured ho
    split at hx
    · rename_i hf
      simp only [Option.some.injEq, Prod.mk.injEq] at hx; obtain ⟨rfl, rfl⟩ := hx
      simp only [Bool.and_eq_true, Array.isEmpty_iff] at hf
      obtain ⟨rfl, hpl⟩ := hf
      have ha := evs_rel hg hs captured.toList
      have hv : VRel X ρ h w (.func (.func f) #[] (captured.map a.eval)) (.clo f (captured.toList.map (ev G s))) := by
        refine ⟨captured.map a.eval, rfl, by simp, fun j c hj => ?_⟩
        obtain ⟨u, h1, h2⟩ := ha.2 j c hj
        refine ⟨u, by simpa using h1, ?_⟩
        have hc := List.all_eq_true.1 hpl c (List.mem_of_getElem? hj)
        cases c <;> first
          | exact h2
          | simp [V.plain] at hc
      exact wp_value (by simp [execOp, ho, Instr.makeFunc]) (Stp.refl H) hv hk
    · cases hx
  · rename_i t y z ho
    obtain ⟨v, ρ', w', hr, st, hv⟩ := makeSliceV_sound hx H (E y) (E z)
    exact wp_value (by simp [execOp, ho, hr]) st hv hk
  · rename_i t y lo hi mx ho
    obtain ⟨hy, rfl⟩ := withH_some hx
    obtain ⟨v, hr, hv⟩ := sliceV_sound (vlo := lo.map a.eval) (vhi := hi.map a.eval) (vmx := mx.map a.eval) hy H (E y) (opt_rel hg hs lo).1 (opt_rel hg hs lo).2 (opt_rel hg hs hi).1 (opt_rel hg hs hi).2 (opt_rel hg hs mx).2
    exact wp_value (by simp [execOp, ho, hr]) (Stp.refl H) hv hk
  · rename_i t y f ho
    obtain ⟨hy, rfl⟩ := withH_some hx
    obtain ⟨v, hr, hv⟩ := fieldAddrV_sound hy (E y)
    exact wp_value (by simp [execOp, ho, hr]) (Stp.refl H) hv hk
  · rename_i t y f ho
    obtain ⟨hy, rfl⟩ := withH_some hx
    obtain ⟨v, hr, hv⟩ := fieldV_sound hy (E y)
    exact wp_value (by simp [execOp, ho, hr]) (Stp.refl H) hv hk
  · rename_i t y z ho
    obtain ⟨hy, rfl⟩ := withH_some hx
    obtain ⟨v, hr, hv⟩ := indexAddrV_sound hy H (E y) (E z)
    exact wp_value (by simp [execOp, ho, hr]) (Stp.refl H) hv hk
  · rename_i t y z ho
    obtain ⟨hy, rfl⟩ := withH_some hx
    obtain ⟨v, hr, hv⟩ := indexV_sound hy (E y) (E z)
    exact wp_value (by simp [execOp, ho, hr]) (Stp.refl H) hv hk
  · rename_i y xT t ok ho
    obtain ⟨hy, rfl⟩ := withH_some hx
    obtain ⟨v, hr, hv⟩ := assertV_sound (xT := xT) hy (E y)
    exact wp_value (by simp [execOp, ho, hr]) (Stp.refl H) hv hk
  · rename_i y i ho
    obtain ⟨hy, rfl⟩ := withH_some hx
    obtain ⟨v, hr, hv⟩ := extractV_sound (P := P) hy (E y)
    exact wp_value (by simp [execOp, ho, hr]) (Stp.refl H) hv hk
  · rename_i c ho
    have hargs : c.args.map a.eval = (c.args.toList.map a.eval).toArray := by apply Array.ext'; simp
    split at hx
    · rename_i b hc
      obtain ⟨v, ρ', w', hr, st, hv⟩ := builtinV_sound (ty := o.type) (cs := c.args.map fun | .const _ => true | _ => false) hx H (evs_rel hg hs c.args.toList)
      refine wp_value ?_ st hv hk
      simp only [execOp, ho, resolve, hc, hargs]
      rw [Sem.run_bind, Sem.run_pure, Result.andThen_ok]
      exact hr
    · cases hx
    · rename_i f hc
      unfold calleeV at hx
      split at hx
      · rename_i g hf
        have hv := E f
        rw [hf] at hv
        have hfv : a.eval f = .func (.func g) #[] #[] := by
          generalize a.eval f = vf at hv
          cases hv; rfl
        refine calls_wp hrun hhas hx H hg (evs_rel hg hs c.args.toList) ?_ hk
        simp only [execOp, ho, resolve, hc, hfv, Deferred.ofValue, Sem.run_bind, Sem.run_pure, Result.andThen_ok, invoke, hargs]
        simp
      · rename_i g caps hf
        have hv := E f
        rw [hf] at hv
        obtain ⟨us, hfv, u1, u2⟩ := hv
        have ha := evs_rel hg hs c.args.toList
        refine calls_wp (vs := c.args.toList.map a.eval ++ us.toList) hrun hhas hx H hg ⟨by simp [u1], fun j A hj => ?_⟩ ?_ hk
        · rcases Nat.lt_or_ge j (c.args.toList.map (ev G s)).length with hlt | hge
          · rw [List.getElem?_append_left hlt] at hj
            rw [List.getElem?_append_left (by simpa using hlt)]
            exact ha.2 j A hj
          · rw [List.getElem?_append_right hge] at hj
            rw [List.getElem?_append_right (by simpa using hge)]
            obtain ⟨u, hu, hu2⟩ := u2 _ A hj
            refine ⟨u, by simpa using hu, ?_⟩
            have : V1 X ρ h w u A := by
              cases A with
              | clo _ _ => exact hu2.elim
              | _ => exact hu2
            exact this.vrel
        · simp only [execOp, ho, resolve, hc, hfv, Deferred.ofValue, Sem.run_bind, Sem.run_pure, Result.andThen_ok, invoke, hargs]
          congr 2
          apply Array.ext'
          simp
      · cases hx
  · cases hx

end
end Go.Am
