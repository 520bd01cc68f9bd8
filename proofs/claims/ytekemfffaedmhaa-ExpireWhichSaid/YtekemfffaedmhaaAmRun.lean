/- A call: its body, its results; whatever comes of the machine's run comes of the call. -/
import Derived.Test.YtekemfffaedmhaaAmCode
set_option linter.all false
namespace Go.Am
section
variable {X : Nat → Nat → Prop} {ρ ρ' ρ'' : Places} {h h' h'' h2 : List Obj} {w w' w'' : World} {k : Nat} {P : Program} {G : Nat → Option (List D)}

theorem loadAt_loadVar {t : TypeId} {v u : Value} (hr : (Instr.loadAt t v).run P w = .ok u w) : (do loadVar t (← asAddr v)).run P w = .ok u w := by
  cases v with
  | pointer a =>
    cases a with
    | none => simp [Instr.loadAt, Instr.sureAddr] at hr
    | some a => simpa [Instr.loadAt, Instr.sureAddr, asAddr] using hr
  | _ => simp [Instr.loadAt, Instr.sureAddr] at hr

/-- The results of a call, as values. -/
def resultOf (tmps : Array Value) : ResultVar → Sem Value
  | .tmp t => pure (tmps.getD t undef)
  | .cell a t => do loadVar t (← asAddr (tmps.getD a undef))

theorem resV_sound {tmps : Array Value} {s : Slots} (H : HRel X ρ h w) (hs : SRel X ρ h w tmps s) : ∀ (l : List ResultVar) (vs : List V), resV P s h l = some vs →
    ∃ us : List Value, (l.mapM (resultOf tmps)).run P w = .ok us w ∧ ArgRel X ρ h w us vs
  | [], vs, hr => by
    simp only [resV, Option.some.injEq] at hr; subst hr
    exact ⟨[], by simp, rfl, fun j A hj => by simp at hj⟩
  | .tmp t :: l, vs, hr => by
    simp only [resV, Option.map_eq_some_iff] at hr
    obtain ⟨vs', hr', rfl⟩ := hr
    obtain ⟨us, h1, h2, h3⟩ := resV_sound H hs l vs' hr'
    refine ⟨tmps.getD t undef :: us, by simp [resultOf, h1], by simp [h2], fun j A hj => ?_⟩
    cases j with
    | zero => simp only [List.getElem?_cons_zero, Option.some.injEq] at hj; subst hj; exact ⟨_, rfl, hs t⟩
    | succ j => simpa using h3 j A (by simpa using hj)
  | .cell a t :: l, vs, hr => by
    simp only [resV] at hr
    split at hr
    · rename_i v vs' hl hr'
      simp only [Option.some.injEq] at hr; subst hr
      obtain ⟨us, h1, h2, h3⟩ := resV_sound H hs l vs' hr'
      obtain ⟨u, h4, h5⟩ := loadV_sound hl H (hs a)
      have h6 := loadAt_loadVar h4
      refine ⟨u :: us, ?_, by simp [h2], fun j A hj => ?_⟩
      · simp only [List.mapM_cons, resultOf, Sem.run_bind]
        simp only [Sem.run_bind] at h6
        rw [h6]
        simp [h1]
      · cases j with
        | zero => simp only [List.getElem?_cons_zero, Option.some.injEq] at hj; subst hj; exact ⟨u, rfl, h5⟩
        | succ j => simpa using h3 j A (by simpa using hj)
    · cases hr

theorem results_run {fn : Func} {tmps : Array Value} {us : List Value} (hr : (fn.results.toList.mapM (resultOf tmps)).run P w = .ok us w) : (results fn tmps).run P w = .ok (oneVal us) w := by
  have e : results fn tmps = (do let vs ← fn.results.mapM (resultOf tmps); pure (if h : vs.size = 1 then vs[0] else .tuple vs)) := by
    unfold results
    congr 1
  rw [e, Array.mapM_eq_mapM_toList]
  simp only [Sem.run_bind, Sem.run_map, hr]
  match us with
  | [] => simp [oneVal]
  | [v] => simp [oneVal]
  | v :: u :: us => simp [oneVal]

theorem solid_sound : ∀ (vs : List V) (ts : List TypeId) (ρ : Places) (h : List Obj) (us : List Value), HRel X ρ h w → ArgRel X ρ h w us vs →
    ∃ ρ', Stp X ρ h w ρ' (solid P h vs ts).2 w ∧ ArgRel X ρ' (solid P h vs ts).2 w us (solid P h vs ts).1
  | [], ts, ρ, h, us, H, ha => ⟨ρ, Stp.refl H, ha⟩
  | v :: vs, ts, ρ, h, us, H, ⟨hl, hg⟩ => by
    match us, hl, hg with
    | u :: us, hl, hg =>
    obtain ⟨u', e, hv⟩ := hg 0 v (by simp)
    simp only [List.getElem?_cons_zero, Option.some.injEq] at e; subst e
    have tail : ArgRel X ρ h w us vs := ⟨by simpa using hl, fun j A hj => by simpa using hg (j + 1) A (by simpa using hj)⟩
    simp only [solid]
    split
    · obtain ⟨n1, n2⟩ := new_nil H (elemSize P (ts.headD 0))
      have hu : u = .slice none 0 0 := hv
      subst hu
      obtain ⟨ρ', s1, l1, r1⟩ := solid_sound vs ts.tail _ _ us n1.rel ⟨tail.1, fun j A hj => let ⟨v, a, b⟩ := tail.2 j A hj; ⟨v, a, n1.vrel b⟩⟩
      refine ⟨ρ', n1.trans H s1, by simp [l1], fun j A hj => ?_⟩
      cases j with
      | zero => simp only [List.getElem?_cons_zero, Option.some.injEq] at hj; subst hj; exact ⟨_, rfl, s1.vrel n2⟩
      | succ j => simpa using r1 j A (by simpa using hj)
    · obtain ⟨ρ', s1, l1, r1⟩ := solid_sound vs ts.tail _ _ us H tail
      refine ⟨ρ', s1, by simp [l1], fun j A hj => ?_⟩
      cases j with
      | zero => simp only [List.getElem?_cons_zero, Option.some.injEq] at hj; subst hj; exact ⟨_, rfl, s1.vrel hv⟩
      | succ j => simpa using r1 j A (by simpa using hj)

theorem finish_sound {ts : List TypeId} {vs ws : List V} {us : List Value} (hx : finish P k ts vs h = some (ws, h2)) (H : HRel X ρ h w) (ha : ArgRel X ρ h w us vs) (hk : k ≤ h.length) :
    ∃ ρ2, Stk k X ρ h w ρ2 h2 w ∧ RetRel X ρ2 h2 w (oneVal us) ws := by
  unfold finish at hx
  obtain ⟨ρ1, s1, r1⟩ := solid_sound (P := P) vs ts ρ h us H ha
  generalize solid P h vs ts = p at *
  simp only at hx
  obtain ⟨r, hr⟩ := reach_range p.2 k (p.1.flatMap V.ids)
  have hn : (reach p.2 (addIds (List.range k) (p.1.flatMap V.ids))).Nodup := reach_nodup _ (addIds_nodup _ _ List.nodup_range)
  generalize reach p.2 (addIds (List.range k) (p.1.flatMap V.ids)) = ids at *
  split at hx
  · rename_i s3 h3 e1 e2
    simp only [Option.some.injEq, Prod.mk.injEq] at hx
    obtain ⟨rfl, rfl⟩ := hx
    obtain ⟨R, st⟩ := drop_step s1.rel hn e2 hr
    obtain ⟨m1, m2⟩ := mapM_get e1
    refine ⟨_, (s1.stk H hk).trans st, us, by rw [r1.1, m1], fun j B hj => ?_, rfl⟩
    obtain ⟨A, hA, hAr⟩ := m2 j B hj
    obtain ⟨u, hu, hv⟩ := r1.2 j A hA
    refine ⟨u, hu, V2.ren R ?_ hAr⟩
    cases A with
    | tup vs => simp [V.ren2, V.ren1, V.ren0] at hAr
    | _ => exact hv
  · cases hx

theorem startSlots_get : ∀ (args : List V) (i t : Nat), sget (startSlots i args) t = if i ≤ t then args.getD (t - i) .dead else .dead
  | [], i, t => by simp [startSlots, sget]
  | v :: vs, i, t => by
    simp only [startSlots, sget]
    rw [startSlots_get vs (i + 1) t]
    by_cases e : i = t
    · subst e; simp
    · rw [if_neg e]
      by_cases h1 : i ≤ t
      · rw [if_pos h1, if_pos (by omega), show t - i = t - (i + 1) + 1 by omega, List.getD_cons_succ]
      · rw [if_neg h1, if_neg (by omega)]

theorem bodyV_ok {run : Run} {K : Keeps} {Sh : Hints} (hm : P.follows .mixedOrders = true) {loopI : (Slots → List Obj → Res) → Slots → List Obj → Res} (hrun : RunOk P G run) (hhas : RunHas P run)
    (hloop : ∀ (k nt : Nat) (X : Nat → Nat → Prop) (c : Code) (f : Slots → List Obj → Res), Does k P X G nt c f → Does k P X G nt (.loop c) (loopI f)) :
    RunOk P G (bodyV P G K Sh run loopI) ∧ RunHas P (bodyV P G K Sh run loopI) := by
  have open' : ∀ f args h r, bodyV P G K Sh run loopI f args h = some r → ∃ fn c, P.funcs[f]? = some fn ∧ fn.body = some c ∧ (fn.name == "runtime.NumGoroutine") = false ∧ codeOk P (Sh f) fn.ntmps c = true ∧
      args.length ≤ fn.ntmps ∧ endV P fn h.length (codeV P G K Sh run loopI f h.length 0 c (startSlots 0 args) h) = some r := fun f args h r hr => by
    unfold bodyV at hr
    split at hr
    · cases hr
    · rename_i fn hf
      split at hr
      · cases hr
      · rename_i c hb
        split at hr
        · rename_i hc
          simp only [Bool.and_eq_true, decide_eq_true_eq, Bool.not_eq_true'] at hc
          exact ⟨fn, c, hf, hb, hc.2, hc.1.1, hc.1.2, hr⟩
        · cases hr
  refine ⟨fun f args h rets h' hr X ρ w vs H hg ha => ?_, fun f args h r hr => ?_⟩
  · obtain ⟨fn, c, hf, hb, _, hok, hle, he⟩ := open' _ _ _ _ hr
    refine calls_of_wp hf hb ?_
    have S : St X G fn.ntmps ρ h w { tmps := vs.toArray ++ Array.replicate (fn.ntmps - vs.toArray.size) undef, defers := [] } (startSlots 0 args) := by
      refine ⟨H, hg, fun t => ?_, ?_⟩
      · rw [startSlots_get, if_pos (Nat.zero_le _), Nat.sub_zero]
        rcases Nat.lt_or_ge t args.length with ht | ht
        · obtain ⟨v, h1, h2⟩ := ha.2 t args[t] (by simp [ht])
          have h3 : args.getD t .dead = args[t] := by simp [List.getD_eq_getElem?_getD, ht]
          rw [h3, Array.getD_eq_getD_getElem?, Array.getElem?_append_left (by simpa [ha.1] using ht), List.getElem?_toArray, h1]
          exact h2
        · have h3 : args.getD t .dead = .dead := by simp [List.getD_eq_getElem?_getD, List.getElem?_eq_none ht]
          rw [h3]; trivial
      · have := ha.1
        simp only [Array.size_append, List.size_toArray, Array.size_replicate]
        omega
    cases hcv : codeV P G K Sh run loopI f h.length 0 c (startSlots 0 args) h with
    | none => rw [hcv] at he; cases he
    | some q =>
      obtain ⟨o, s1, h1⟩ := q
      rw [hcv] at he
      refine codeV_does hm hrun hhas (hloop _ _ _) c 0 hok ρ _ h _ w _ _ hcv S (Nat.le_refl _) fun ρ1 a1 w1 st S1 hd => ?_
      have key : obind (resV P s1 h1 fn.results.toList) (fun vs => finish P h.length fn.resultTypes.toList vs h1) = some (rets, h') →
          a1.defers = [] ∧ ∃ v, (results fn a1.tmps).run P w1 = .ok v w1 ∧ ∃ ρ' rv, Ending.returned v = .returned rv ∧ Stp X ρ h w ρ' h' w1 ∧ RetRel X ρ' h' w1 rv rets := fun he => by
        cases hres : resV P s1 h1 fn.results.toList with
        | none => rw [hres] at he; cases he
        | some rs =>
          rw [hres] at he
          obtain ⟨us, r1, r2⟩ := resV_sound S1.rel S1.slots _ _ hres
          obtain ⟨ρ2, st2, rr⟩ := finish_sound he S1.rel r2 st.le
          have st3 := st.trans st2
          exact ⟨hd, _, results_run r1, ρ2, _, rfl, ⟨st3.rel, st3.fr, st3.evo⟩, rr⟩
      cases o with
      | normal => exact key he
      | exit i => simp [endV] at he
      | ret => exact key he
  · obtain ⟨fn, c, hf, hb, hname, _⟩ := open' _ _ _ _ hr
    exact ⟨fn, hf, hname, by rw [hb]; rfl⟩

theorem runV_ok {K : Keeps} {Sh : Hints} (hm : P.follows .mixedOrders = true) : ∀ n, RunOk P G (runV P G K Sh n) ∧ RunHas P (runV P G K Sh n)
  | 0 => ⟨fun _ _ _ _ _ hr => by simp [runV] at hr, fun _ _ _ _ hr => by simp [runV] at hr⟩
  | n + 1 => bodyV_ok hm (runV_ok hm n).1 (runV_ok hm n).2 fun _ _ _ _ _ hc => loop_does hc n

end
end Go.Am
