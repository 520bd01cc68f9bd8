/- The code of a function, and a call of it. -/
import Derived.Test.YtekemfffaedmhaaAmDraw
import Derived.LoopN
set_option linter.all false
namespace Go.Am

/-- As Stp, of the first k objects. -/
structure Stk (k : Nat) (X : Nat → Nat → Prop) (ρ : Places) (h : List Obj) (w : World) (ρ' : Places) (h' : List Obj) (w' : World) : Prop where
  rel : HRel X ρ' h' w'
  fr : Fr X ρ h w ρ' h' w'
  evo : Evo k ρ h ρ' h'
  le : k ≤ h'.length

section
variable {X : Nat → Nat → Prop} {ρ ρ' ρ'' : Places} {h h' h'' h2 : List Obj} {w w' w'' : World} {k : Nat} {P : Program} {G : Nat → Option (List D)}

theorem Stk.refl (H : HRel X ρ h w) (hk : k ≤ h.length) : Stk k X ρ h w ρ h w := ⟨H, Fr.refl _ _ _, Evo.refl _ _ _, hk⟩

theorem Stk.trans (a : Stk k X ρ h w ρ' h' w') (b : Stk k X ρ' h' w' ρ'' h'' w'') : Stk k X ρ h w ρ'' h'' w'' := ⟨b.rel, a.fr.trans b.fr, a.evo.trans b.evo, b.le⟩

theorem Stp.stk (a : Stp X ρ h w ρ' h' w') (H : HRel X ρ h w) (hk : k ≤ h.length) : Stk k X ρ h w ρ' h' w' := ⟨a.rel, a.fr, a.evo.mono hk, Nat.le_trans hk (a.evo.le H)⟩

theorem ren_evo1 {f : Nat → Option Nat} {o o1 : Obj} (h1 : Obj.ren f o = some o1) (r : Place) : EvoObj o o1 r r := by
  cases o with
  | box cs =>
    simp only [Obj.ren, Option.map_eq_some_iff] at h1
    obtain ⟨cs1, hc1, rfl⟩ := h1
    exact ⟨(mapM_get hc1).1, rfl⟩
  | arr _ _ _ => simp only [Obj.ren, Option.some.injEq] at h1; subst h1; exact EvoObj.refl _ _
  | siter _ _ => simp only [Obj.ren, Option.some.injEq] at h1; subst h1; exact EvoObj.refl _ _

/-- Objects that nobody needs are dropped. -/
theorem drop_step (H : HRel X ρ h w) {ids r : List Nat} (hn : ids.Nodup) (ht : takeObjs h (place ids) ids = some h2) (hr : ids = List.range k ++ r) :
    RenOk X X (place ids) ρ h (subPlaces ρ ids) h2 ∧ Stk k X ρ h w (subPlaces ρ ids) h2 w := by
  obtain ⟨R, H2⟩ := sub_rel (Y := X) H hn ht fun b j hX => .inl hX
  obtain ⟨t1, t2⟩ := takeObjs_spec ht
  have hsub : ∀ (id : Nat) (r : Place), (subPlaces ρ ids)[id]? = some r → ∃ i, ρ[i]? = some r := fun id r hid => by
    have hlt : id < h2.length := by rw [t1]; simpa [subPlaces] using lt_of_getElem? hid
    obtain ⟨i, o, hi, ho, _⟩ := t2 id h2[id] (by simp [hlt])
    rw [sub_get H hi ho] at hid
    exact ⟨i, hid⟩
  refine ⟨R, H2, ⟨rfl, rfl, rfl, Nat.le_refl _, fun b _ hno => ⟨rfl, fun id c hid => ?_⟩, fun b j v hm hc => ⟨hc, fun hm' => hm (R.mu b j hm')⟩⟩, fun id o r0 hid ho hr0 => ?_, by rw [t1, hr]; simp⟩
  · obtain ⟨i, hi⟩ := hsub id _ hid
    exact hno i c hi
  · have hget : ids[id]? = some id := by rw [hr, List.getElem?_append_left (by simpa using hid), List.getElem?_range hid]
    have hlt : id < h2.length := by rw [t1]; exact lt_of_getElem? hget
    obtain ⟨i, o', hi, ho', hren⟩ := t2 id h2[id] (by simp [hlt])
    rw [hget] at hi; cases hi
    rw [ho] at ho'; cases ho'
    exact ⟨h2[id], r0, by simp [hlt], by rw [sub_get H hget ho, hr0], ren_evo1 hren r0⟩

theorem keepSlots_sound {tmps : Array Value} {s : Slots} : ∀ (keep : List (Nat × Nat)) (ρ : Places) (h : List Obj), HRel X ρ h w → SRel X ρ h w tmps s →
    ∃ ρ', Stp X ρ h w ρ' (keepSlots s h keep).2 w ∧ SRel X ρ' (keepSlots s h keep).2 w tmps (keepSlots s h keep).1
  | [], ρ, h, H, hs => ⟨ρ, Stp.refl H, fun t => trivial⟩
  | (t, sz) :: r, ρ, h, H, hs => by
    simp only [keepSlots]
    split
    · rename_i sz' hv
      obtain ⟨n1, n2⟩ := new_nil H (sz' + 1)
      obtain ⟨ρ', s1, r1⟩ := keepSlots_sound r _ _ n1.rel (hs.mono n1)
      refine ⟨ρ', n1.trans H s1, fun t' => ?_⟩
      simp only [sget]
      split
      · rename_i e
        subst e
        have := hs t
        rw [hv] at this
        have hv' : tmps.getD t undef = .slice none 0 0 := this
        rw [hv']
        exact s1.vrel n2
      · exact r1 t'
    · obtain ⟨ρ', s1, r1⟩ := keepSlots_sound r _ _ H hs
      refine ⟨ρ', s1, fun t' => ?_⟩
      simp only [sget]
      split
      · rename_i e
        subst e
        exact s1.vrel (hs t)
      · exact r1 t'

theorem renSlots_sget {f : Nat → Option Nat} : ∀ {s s2 : Slots} (_ : renSlots f s = some s2) (t : Nat), V.ren f (sget s t) = some (sget s2 t)
  | [], s2, hr, t => by simp [renSlots] at hr; subst hr; rfl
  | (i, v) :: s, s2, hr, t => by
    simp only [renSlots, List.mapM_cons, Option.bind_eq_bind, Option.bind_eq_some_iff, Option.map_eq_some_iff, Option.pure_def, Option.some.injEq] at hr
    obtain ⟨p, ⟨y, hy, rfl⟩, ys, hys, rfl⟩ := hr
    simp only [sget]
    split
    · exact hy
    · exact renSlots_sget hys t

theorem SRel.ren {X' : Nat → Nat → Prop} {f : Nat → Option Nat} {ρ2 : Places} {tmps : Array Value} {s s2 : Slots} (R : RenOk X X' f ρ h ρ2 h2) (hs : SRel X ρ h w tmps s) (hr : renSlots f s = some s2) : SRel X' ρ2 h2 w tmps s2 :=
  fun t => (hs t).ren R (renSlots_sget hr t)

theorem norm_sound {keep : List (Nat × Nat)} {s s2 : Slots} {tmps : Array Value} (hx : norm k keep s h = some (s2, h2)) (H : HRel X ρ h w) (hs : SRel X ρ h w tmps s) (hk : k ≤ h.length) :
    ∃ ρ2, Stk k X ρ h w ρ2 h2 w ∧ SRel X ρ2 h2 w tmps s2 := by
  unfold norm at hx
  obtain ⟨ρ1, s1, r1⟩ := keepSlots_sound keep ρ h H hs
  generalize keepSlots s h keep = p at *
  simp only at hx
  obtain ⟨r, hr⟩ := reach_range p.2 k (p.1.flatMap fun q => q.2.ids)
  have hn : (reach p.2 (addIds (List.range k) (p.1.flatMap fun q => q.2.ids))).Nodup := reach_nodup _ (addIds_nodup _ _ List.nodup_range)
  generalize reach p.2 (addIds (List.range k) (p.1.flatMap fun q => q.2.ids)) = ids at *
  split at hx
  · rename_i s3 h3 e1 e2
    simp only [Option.some.injEq, Prod.mk.injEq] at hx
    obtain ⟨rfl, rfl⟩ := hx
    obtain ⟨R, st⟩ := drop_step s1.rel hn e2 hr
    exact ⟨_, (s1.stk H hk).trans st, r1.ren R e1⟩
  · cases hx

theorem freezeAll_sound : ∀ (s : Slots) (h : List Obj), HRel X ρ h w → Stp X ρ h w ρ (freezeAll h s) w
  | [], h, H => Stp.refl H
  | (i, v) :: s, h, H => by
    simp only [freezeAll]
    split
    · rename_i x h1 hp
      have : Stp X ρ h w ρ h1 w := by
        cases v with
        | arr id n =>
          simp only [pure1] at hp
          split at hp
          · rename_i sz xs wm ho
            split at hp
            · simp only [Option.some.injEq, Prod.mk.injEq] at hp
              obtain ⟨_, rfl⟩ := hp
              obtain ⟨f1, f2, f3⟩ := step_freeze H ho
              exact ⟨f1, f2, f3⟩
            · cases hp
          · cases hp
        | d x => simp only [pure1, Option.some.injEq, Prod.mk.injEq] at hp; obtain ⟨_, rfl⟩ := hp; exact Stp.refl H
        | nilS => simp only [pure1, Option.some.injEq, Prod.mk.injEq] at hp; obtain ⟨_, rfl⟩ := hp; exact Stp.refl H
        | _ => simp [pure1] at hp
      exact this.trans H (freezeAll_sound s h1 this.rel)
    · exact freezeAll_sound s h H

/-- How a piece of code is left. -/
def Out.exit' : Out → Exit
  | .normal => .normal
  | .exit i => .exit i
  | .ret => .ret

theorem St.stp {nt : Nat} {a : Act} {s : Slots} (S : St X G nt ρ h w a s) (st : Stp X ρ h w ρ' h' w') : St X G nt ρ' h' w' a s := ⟨st.rel, S.glob.mono st.fr, S.slots.mono st, S.size⟩

theorem regionV_sound {run : Run} {nt : Nat} {ops : Array Oper} {hint : List Nat} {id : Nat} {draw : Bool} {Q : Exit → Act → World → Prop} (hm : P.follows .mixedOrders = true) (hrun : RunOk P G run) (hhas : RunHas P run)
    (hdst : ∀ o ∈ ops.toList, ∀ d, o.dst = some d → d < nt) (hd : draw = true → drawOk P hint ops.toList = true) {s s' : Slots} {a : Act} {out : Out}
    (hr : regionV P G run hint ops.toList draw s h = some (out, s', h')) (S : St X G nt ρ h w a s)
    (hq : ∀ ρ' a' w', Stp X ρ h w ρ' h' w' → St X G nt ρ' h' w' a' s' → a'.defers = a.defers → Q out.exit' a' w') : (Code.region id ops draw).wp P Q a w := by
  unfold regionV at hr
  generalize hh1 : (if (hasSlice ops.toList && !hasStore ops.toList) = true then freezeAll h s else h) = h1 at hr
  have st : Stp X ρ h w ρ h1 w := by
    rw [← hh1]
    split
    · exact freezeAll_sound s h S.rel
    · exact Stp.refl S.rel
  have e0 : ∀ (f : List Obj → Res), obind (some h1) f = f h1 := fun _ => rfl
  rw [e0] at hr
  cases ho : opsV P G run ops.toList (if draw then hint else []) (view h1) 0 ops.toList s h1 with
  | none => rw [ho] at hr; cases hr
  | some p =>
    obtain ⟨s2, h2⟩ := p
    rw [ho] at hr
    simp only [obind, Option.some.injEq, Prod.mk.injEq] at hr
    obtain ⟨rfl, rfl, rfl⟩ := hr
    exact region_sound hm hrun hhas hdst hd ho (S.stp st) (seen_view h1) fun ρ' a' w' st' => hq ρ' a' w' (st.trans S.rel st')

/-- What is owed to the code behind. -/
def Owes (k : Nat) (X : Nat → Nat → Prop) (G : Nat → Option (List D)) (nt : Nat) (ρ : Places) (h : List Obj) (w : World) (a : Act) (r : Out × Slots × List Obj) (Q : Exit → Act → World → Prop) : Prop :=
  ∀ ρ' a' w', Stk k X ρ h w ρ' r.2.2 w' → St X G nt ρ' r.2.2 w' a' r.2.1 → a'.defers = a.defers → Q r.1.exit' a' w'

theorem Owes.step {nt : Nat} {a a1 : Act} {w1 : World} {ρ1 : Places} {h1 : List Obj} {r : Out × Slots × List Obj} {Q : Exit → Act → World → Prop} (hq : Owes k X G nt ρ h w a r Q) (st : Stk k X ρ h w ρ1 h1 w1) (hd : a1.defers = a.defers) :
    Owes k X G nt ρ1 h1 w1 a1 r Q := fun ρ' a' w' st' S' hd' => hq ρ' a' w' (st.trans st') S' (hd'.trans hd)

/-- A piece of code does what f says. -/
def Does (k : Nat) (P : Program) (X : Nat → Nat → Prop) (G : Nat → Option (List D)) (nt : Nat) (c : Code) (f : Slots → List Obj → Res) : Prop :=
  ∀ (ρ : Places) (s : Slots) (h : List Obj) (a : Act) (w : World) (r : Out × Slots × List Obj) (Q : Exit → Act → World → Prop), f s h = some r → St X G nt ρ h w a s → k ≤ h.length →
    Owes k X G nt ρ h w a r Q → c.wp P Q a w

theorem loop_does {nt : Nat} {c : Code} {f : Slots → List Obj → Res} (hc : Does k P X G nt c f) : ∀ n, Does k P X G nt (.loop c) (iter f n) := by
  intro n ρ s h a w r Q hr S hk hq
  refine wp_loop_rounds n ?_
  induction n generalizing ρ s h a w r with
  | zero => simp [iter] at hr
  | succ n ih =>
    rw [rounds_succ]
    simp only [iter] at hr
    cases hf : f s h with
    | none => rw [hf] at hr; cases hr
    | some q =>
      refine hc ρ s h a w q _ hf S hk fun ρ1 a1 w1 st S1 hd => ?_
      rw [hf] at hr
      obtain ⟨o, s1, h1⟩ := q
      cases o with
      | normal => exact ih ρ1 s1 h1 a1 w1 r hr S1 st.le (hq.step st hd)
      | exit i => simp only [onNormal, Option.some.injEq] at hr; subst hr; exact hq ρ1 a1 w1 st S1 hd
      | ret => simp only [onNormal, Option.some.injEq] at hr; subst hr; exact hq ρ1 a1 w1 st S1 hd

theorem codeV_does {run : Run} {nt : Nat} {K : Keeps} {Sh : Hints} {F : FuncId} {loopI : (Slots → List Obj → Res) → Slots → List Obj → Res} (hm : P.follows .mixedOrders = true) (hrun : RunOk P G run) (hhas : RunHas P run)
    (hloop : ∀ (c : Code) (f : Slots → List Obj → Res), Does k P X G nt c f → Does k P X G nt (.loop c) (loopI f)) :
    ∀ (c : Code) (b : Nat), codeOk P (Sh F) nt c = true → Does k P X G nt c (codeV P G K Sh run loopI F k b c) := by
  intro c
  induction c with
  | skip =>
    intro b hok ρ s h a w r Q hr S hk hq
    simp only [codeV, Option.some.injEq] at hr; subst hr
    exact wp_skip (hq ρ a w (Stk.refl S.rel hk) S rfl)
  | region id ops draw =>
    intro b hok ρ s h a w r Q hr S hk hq
    simp only [codeV] at hr
    simp only [codeOk, Bool.and_eq_true, List.all_eq_true] at hok
    obtain ⟨o, s', h'⟩ := r
    refine regionV_sound hm hrun hhas (fun o ho d hd => ?_) (fun hd => ?_) hr S fun ρ' a' w' st => hq ρ' a' w' (st.stk S.rel hk)
    · have := hok.1 o ho
      rw [hd] at this
      simpa using this
    · have := hok.2
      rw [hd] at this
      simpa using this
  | seq x y ihx ihy =>
    intro b hok ρ s h a w r Q hr S hk hq
    simp only [codeV] at hr
    simp only [codeOk, Bool.and_eq_true] at hok
    refine wp_seq ?_
    cases hf : codeV P G K Sh run loopI F k b x s h with
    | none => rw [hf] at hr; cases hr
    | some q =>
      refine ihx b hok.1 ρ s h a w q _ hf S hk fun ρ1 a1 w1 st S1 hd => ?_
      rw [hf] at hr
      obtain ⟨o, s1, h1⟩ := q
      cases o with
      | normal => exact ihy b hok.2 ρ1 s1 h1 a1 w1 r Q hr S1 st.le (hq.step st hd)
      | exit i => simp only [onNormal, Option.some.injEq] at hr; subst hr; exact hq ρ1 a1 w1 st S1 hd
      | ret => simp only [onNormal, Option.some.injEq] at hr; subst hr; exact hq ρ1 a1 w1 st S1 hd
  | cond c x y ihx ihy =>
    intro b hok ρ s h a w r Q hr S hk hq
    simp only [codeV] at hr
    simp only [codeOk, Bool.and_eq_true] at hok
    unfold branch at hr
    split at hr
    · rename_i t hc
      have hv := ev_rel S.glob S.slots c
      rw [hc] at hv
      have hb : a.eval c = .bool t := by
        generalize a.eval c = v at hv
        cases hv
        rfl
      refine wp_cond hb ?_
      cases t with
      | true => exact ihx b hok.1 ρ s h a w r Q hr S hk hq
      | false => exact ihy b hok.2 ρ s h a w r Q hr S hk hq
    · cases hr
  | block id c ih =>
    intro b hok ρ s h a w r Q hr S hk hq
    simp only [codeV] at hr
    simp only [codeOk] at hok
    refine wp_block ?_
    cases hf : codeV P G K Sh run loopI F k id c s h with
    | none => rw [hf] at hr; cases hr
    | some q =>
      refine ih id hok ρ s h a w q _ hf S hk fun ρ1 a1 w1 st S1 hd => ?_
      rw [hf] at hr
      obtain ⟨o, s1, h1⟩ := q
      cases o with
      | normal => simp only [leave, Option.some.injEq] at hr; subst hr; exact hq ρ1 a1 w1 st S1 hd
      | exit i =>
        simp only [leave] at hr
        simp only [Out.exit', Exit.inBlock]
        split at hr
        · rename_i e
          rw [if_pos e]
          simp only [Option.some.injEq] at hr; subst hr
          exact hq ρ1 a1 w1 st S1 hd
        · rename_i e
          rw [if_neg e]
          simp only [Option.some.injEq] at hr; subst hr
          exact hq ρ1 a1 w1 st S1 hd
      | ret => simp only [leave, Option.some.injEq] at hr; subst hr; exact hq ρ1 a1 w1 st S1 hd
  | loop c ih =>
    intro b hok ρ s h a w r Q hr S hk hq
    simp only [codeV] at hr
    simp only [codeOk] at hok
    split at hr
    · rename_i keep hkeep
      refine hloop c (fun s h => obind (norm k keep s h) fun p => codeV P G K Sh run loopI F k b c p.1 p.2) ?_ ρ s h a w r Q hr S hk hq
      intro ρ s h a w r Q hr S hk hq
      replace hr : (obind (norm k keep s h) fun p => codeV P G K Sh run loopI F k b c p.1 p.2) = some r := hr
      cases hn : norm k keep s h with
      | none => rw [hn] at hr; cases hr
      | some p =>
        obtain ⟨s2, h2⟩ := p
        rw [hn] at hr
        obtain ⟨ρ2, st, hs⟩ := norm_sound hn S.rel S.slots hk
        exact ih b hok ρ2 s2 h2 a w r Q hr ⟨st.rel, S.glob.mono st.fr, hs, S.size⟩ st.le (hq.step st rfl)
    · exact hloop c _ (ih b hok) ρ s h a w r Q hr S hk hq
  | exit id =>
    intro b hok ρ s h a w r Q hr S hk hq
    simp only [codeV, Option.some.injEq] at hr; subst hr
    exact wp_exit (hq ρ a w (Stk.refl S.rel hk) S rfl)
  | ret =>
    intro b hok ρ s h a w r Q hr S hk hq
    simp only [codeV, Option.some.injEq] at hr; subst hr
    exact wp_ret (hq ρ a w (Stk.refl S.rel hk) S rfl)
  | _ =>
    intro b hok ρ s h a w r Q hr S hk hq
    simp [codeV] at hr

open Classical in
/-- A loop, for as long as it takes. -/
noncomputable def loops (body : Slots → List Obj → Res) (s : Slots) (h : List Obj) : Res :=
  if e : ∃ n r, iter body n s h = some r then some (Classical.choose (Classical.choose_spec e)) else none

theorem iter_mono {body : Slots → List Obj → Res} : ∀ {n m : Nat}, n ≤ m → ∀ {s : Slots} {h : List Obj} {r : Out × Slots × List Obj}, iter body n s h = some r → iter body m s h = some r
  | 0, _, _, s, h, r, hr => by simp [iter] at hr
  | n + 1, 0, hl, _, _, _, _ => by omega
  | n + 1, m + 1, hl, s, h, r, hr => by
    simp only [iter] at hr ⊢
    cases hb : body s h with
    | none => rw [hb] at hr; cases hr
    | some q =>
      rw [hb] at hr
      obtain ⟨o, s1, h1⟩ := q
      cases o with
      | normal => exact iter_mono (Nat.le_of_succ_le_succ hl) hr
      | exit i => exact hr
      | ret => exact hr

theorem loops_some {body : Slots → List Obj → Res} {s : Slots} {h : List Obj} {r : Out × Slots × List Obj} : loops body s h = some r ↔ ∃ n, iter body n s h = some r := by
  unfold loops
  constructor
  · intro hr
    split at hr
    · rename_i e
      simp only [Option.some.injEq] at hr
      subst hr
      exact ⟨_, Classical.choose_spec (Classical.choose_spec e)⟩
    · cases hr
  · rintro ⟨n, hn⟩
    have e : ∃ n r, iter body n s h = some r := ⟨n, r, hn⟩
    rw [dif_pos e]
    have h2 := Classical.choose_spec (Classical.choose_spec e)
    have h3 := iter_mono (Nat.le_max_left n (Classical.choose e)) hn
    have h4 := iter_mono (Nat.le_max_right n (Classical.choose e)) h2
    rw [h3] at h4
    simpa using h4.symm

theorem loops_eq (body : Slots → List Obj → Res) (s : Slots) (h : List Obj) : loops body s h = onNormal (body s h) (loops body) := by
  apply Option.ext
  intro r
  rw [loops_some]
  cases hb : body s h with
  | none =>
    simp only [onNormal, reduceCtorEq, iff_false, not_exists]
    intro n hn
    cases n with
    | zero => simp [iter] at hn
    | succ n => simp [iter, hb, onNormal] at hn
  | some q =>
    obtain ⟨o, s1, h1⟩ := q
    cases o with
    | normal =>
      simp only [onNormal]
      rw [loops_some]
      constructor
      · rintro ⟨n, hn⟩
        cases n with
        | zero => simp [iter] at hn
        | succ n => exact ⟨n, by simpa [iter, hb, onNormal] using hn⟩
      · rintro ⟨n, hn⟩
        exact ⟨n + 1, by simpa [iter, hb, onNormal] using hn⟩
    | exit i =>
      simp only [onNormal]
      constructor
      · rintro ⟨n, hn⟩
        cases n with
        | zero => simp [iter] at hn
        | succ n => simpa [iter, hb, onNormal] using hn
      · intro hr
        exact ⟨1, by simpa [iter, hb, onNormal] using hr⟩
    | ret =>
      simp only [onNormal]
      constructor
      · rintro ⟨n, hn⟩
        cases n with
        | zero => simp [iter] at hn
        | succ n => simpa [iter, hb, onNormal] using hn
      · intro hr
        exact ⟨1, by simpa [iter, hb, onNormal] using hr⟩

theorem loops_does {nt : Nat} {c : Code} {f : Slots → List Obj → Res} (hc : Does k P X G nt c f) : Does k P X G nt (.loop c) (loops f) := fun ρ s h a w r Q hr S hk hq =>
  let ⟨n, hn⟩ := loops_some.1 hr
  loop_does hc n ρ s h a w r Q hn S hk hq

end
end Go.Am
