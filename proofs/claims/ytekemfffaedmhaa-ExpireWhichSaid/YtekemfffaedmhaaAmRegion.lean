/- The operations of a region, one behind the other, in whatever order. -/
import Derived.Test.YtekemfffaedmhaaAmOp
set_option linter.all false
namespace Go.Am
section
variable (P : Program) (G : Nat → Option (List D)) (run : Run)

/-- One operation, carried out as the hints say. -/
def execI (hint : List Nat) (hv : List Obj) (i : Nat) (s : Slots) (h : List Obj) (o : Oper) : Option (V × List Obj) :=
  if hint.contains i then withH h (blindV P G hv s o) else if hint.isEmpty || mild G s o then opV P G run s h o else none

/-- The operation number i. -/
def stepI (all : List Oper) (hint : List Nat) (hv : List Obj) (i : Nat) (s : Slots) (h : List Obj) : Option (Slots × List Obj) :=
  match all[i]? with
  | none => some (s, h)
  | some o =>
    obind (wantedV all s o.guard) fun w =>
    if w then
      obind (execI P G run hint hv i s h o) fun p => some (putV s o.dst p.1, p.2)
    else some (putV s o.dst (.tup []), h)

def runL (all : List Oper) (hint : List Nat) (hv : List Obj) : List Nat → Slots → List Obj → Option (Slots × List Obj)
  | [], s, h => some (s, h)
  | i :: l, s, h => obind (stepI P G run all hint hv i s h) fun p => runL all hint hv l p.1 p.2

theorem opsV_runL (all : List Oper) (hint : List Nat) (hv : List Obj) : ∀ (rest : List Oper) (i : Nat) (s : Slots) (h : List Obj), (∀ j, rest[j]? = all[i + j]?) →
    opsV P G run all hint hv i rest s h = runL P G run all hint hv (List.range' i rest.length) s h
  | [], i, s, h, _ => by simp [opsV, runL]
  | o :: rest, i, s, h, hr => by
    have h0 : all[i]? = some o := by have := hr 0; simpa using this.symm
    have ih := opsV_runL all hint hv rest (i + 1)
    simp only [opsV, List.length_cons, List.range'_succ, runL, stepI, h0, execI]
    have hr' : ∀ j, rest[j]? = all[i + 1 + j]? := fun j => by
      have := hr (j + 1)
      rw [List.getElem?_cons_succ] at this
      rw [this]
      congr 1
      omega
    cases hw : wantedV all s o.guard with
    | none => rfl
    | some b =>
      cases b with
      | false => simp only [obind, Bool.false_eq_true, if_false]; exact ih _ _ hr'
      | true =>
        simp only [obind, if_true]
        cases (if hint.contains i then withH h (blindV P G hv s o) else if hint.isEmpty || mild G s o then opV P G run s h o else none) with
        | none => rfl
        | some p => simp only; exact ih _ _ hr'
end

section
variable {X : Nat → Nat → Prop} {ρ ρ' : Places} {h h' : List Obj} {w w' : World} {P : Program} {G : Nat → Option (List D)}

/-- What of the objects may be looked at ahead of time: boxes, which stand as they stood. -/
structure Seen (hv h : List Obj) : Prop where
  box : ∀ (id : Nat) (cs : List V), hv[id]? = some (.box cs) → h[id]? = some (.box cs)
  noarr : ∀ (id sz : Nat) (xs : List D) (wm : Nat), hv[id]? ≠ some (.arr sz xs wm)

theorem view_get : ∀ (h : List Obj) (id : Nat) (o : Obj), (view h)[id]? = some o → (∃ cs, o = .box cs ∧ h[id]? = some (.box cs)) ∨ o = .siter ⟨#[]⟩ 0
  | [], id, o, h => by simp [view] at h
  | .box cs :: h, 0, o, e => by simp only [view, List.getElem?_cons_zero, Option.some.injEq] at e; exact .inl ⟨cs, e.symm, rfl⟩
  | .arr _ _ _ :: h, 0, o, e => by simp only [view, List.getElem?_cons_zero, Option.some.injEq] at e; exact .inr e.symm
  | .siter _ _ :: h, 0, o, e => by simp only [view, List.getElem?_cons_zero, Option.some.injEq] at e; exact .inr e.symm
  | .box cs :: h, id + 1, o, e => by simpa using view_get h id o (by simpa [view] using e)
  | .arr _ _ _ :: h, id + 1, o, e => by simpa using view_get h id o (by simpa [view] using e)
  | .siter _ _ :: h, id + 1, o, e => by simpa using view_get h id o (by simpa [view] using e)

theorem seen_view (h : List Obj) : Seen (view h) h where
  box := fun id cs e => by
    rcases view_get h id _ e with ⟨cs', h1, h2⟩ | h1
    · cases h1; exact h2
    · cases h1
  noarr := fun id sz xs wm e => by
    rcases view_get h id _ e with ⟨cs', h1, _⟩ | h1
    · cases h1
    · cases h1

variable {hv : List Obj}

theorem loadV_blind (S : Seen hv h) {t : TypeId} {A x : V} (hx : loadV P hv t A = some x) : loadV P h t A = some x := by
  cases A with
  | ptr id off =>
    simp only [loadV] at hx ⊢
    cases e : hv[id]? with
    | none => rw [e] at hx; cases hx
    | some o =>
      rw [e] at hx
      cases o with
      | box cs => rw [S.box id cs e]; exact hx
      | arr _ _ _ => cases hx
      | siter _ _ => cases hx
  | eptr id n i off =>
    simp only [loadV] at hx
    cases e : hv[id]? with
    | none => rw [e] at hx; cases hx
    | some o =>
      rw [e] at hx
      cases o with
      | arr _ _ _ => exact absurd e (S.noarr _ _ _ _)
      | _ => cases hx
  | _ => exact hx

theorem indexAddrV_blind (S : Seen hv h) {t : TypeId} {A I x : V} (hx : indexAddrV P hv t A I = some x) : indexAddrV P h t A I = some x := by
  unfold indexAddrV at hx ⊢
  split at hx
  · split at hx
    · rename_i hn
      rw [if_pos hn]
      split at hx
      · exact hx
      · split at hx
        · rename_i e1 e2; first | exact absurd e1 (S.noarr _ _ _ _) | exact absurd e2 (S.noarr _ _ _ _)
        · cases hx
      · cases hx
    · cases hx
  · exact hx
  · cases hx

theorem elems_blind (S : Seen hv h) {A : V} {xs : List D} (hx : elems? hv A = some xs) : elems? h A = some xs := by
  unfold elems? at hx ⊢
  split at hx
  · exact hx
  · exact hx
  · split at hx
    · rename_i e; exact absurd e (S.noarr _ _ _ _)
    · cases hx
  · cases hx

theorem readConvV_blind (S : Seen hv h) {src dst : TypeId} {A x : V} (hx : readConvV P hv src dst A = some x) : readConvV P h src dst A = some x := by
  unfold readConvV at hx ⊢
  split at hx
  · exact hx
  · exact hx
  · split at hx
    · rename_i he hxs
      rw [he, elems_blind S hxs]
      exact hx
    · cases hx
  · cases hx

theorem convV_read {src dst : TypeId} {A x : V} (hx : readConvV P h src dst A = some x) : convV P h src dst A = some (x, h) := by
  unfold convV
  split
  · rename_i e s hs hd
    simp [readConvV, hs, hd] at hx
  · rw [hx]; rfl

theorem sliceV_blind (S : Seen hv h) {t : TypeId} {A x : V} {lo hi mx : Option V} (hx : sliceV P hv t A lo hi mx = some x) : sliceV P h t A lo hi mx = some x := by
  unfold sliceV at hx ⊢
  split at hx
  · exact hx
  · exact hx
  · exact hx
  · split at hx
    · rename_i e1 e2; first | exact absurd e1 (S.noarr _ _ _ _) | exact absurd e2 (S.noarr _ _ _ _)
    · cases hx
  · cases hx

theorem lenV_blind (S : Seen hv h) {t : TypeId} {A : V} {n : Nat} (hx : lenV P hv t A = some n) : lenV P h t A = some n := by
  unfold lenV at hx ⊢
  split at hx
  · exact hx
  · exact hx
  · exact hx
  · split at hx
    · rename_i e; exact absurd e (S.noarr _ _ _ _)
    · cases hx
  · exact hx
  · cases hx

theorem blindV_op (S : Seen hv h) {run : Run} {s : Slots} {o : Oper} {x : V} (hx : blindV P G hv s o = some x) : opV P G run s h o = some (x, h) := by
  unfold blindV at hx
  unfold opV
  split at hx
  · rename_i t a ho; simp only [ho, withH, loadV_blind S hx, Option.map_some]
  · rename_i t a lo hi mx ho; simp only [ho, withH, sliceV_blind S hx, Option.map_some]
  · rename_i t a i ho; simp only [ho, withH, indexAddrV_blind S hx, Option.map_some]
  · rename_i src dst a ho; simp only [ho, convV_read (readConvV_blind S hx)]
  · rename_i c ho
    split at hx
    · rename_i t tr A Ar hc ht ha
      simp only [Option.map_eq_some_iff] at hx
      obtain ⟨n, hn, rfl⟩ := hx
      simp only [ho, hc, ht, ha, builtinV, lenV_blind S hn, Option.map_some]
    · cases hx
  · cases hx

theorem Seen.append (S : Seen hv h) (l : List Obj) : Seen hv (h ++ l) := ⟨fun id cs e => by
  have := S.box id cs e
  rw [List.getElem?_append_left (lt_of_getElem? this)]; exact this, S.noarr⟩

theorem Seen.setArr (S : Seen hv h) {i sz : Nat} {xs : List D} {wm : Nat} (ho : h[i]? = some (.arr sz xs wm)) (o : Obj) : Seen hv (h.set i o) := ⟨fun id cs e => by
  have := S.box id cs e
  by_cases hi : i = id
  · subst hi; rw [ho] at this; cases this
  · rw [List.getElem?_set_ne hi]; exact this, S.noarr⟩

theorem pure1_seen {A : V} {x : D} (hp : pure1 h A = some (x, h')) (S : Seen hv h) : Seen hv h' := by
  cases A with
  | arr id n =>
    simp only [pure1] at hp
    split at hp
    · rename_i ho
      split at hp
      · simp only [Option.some.injEq, Prod.mk.injEq] at hp
        obtain ⟨_, rfl⟩ := hp
        exact S.setArr ho _
      · cases hp
    · cases hp
  | d x => simp only [pure1, Option.some.injEq, Prod.mk.injEq] at hp; obtain ⟨_, rfl⟩ := hp; exact S
  | nilS => simp only [pure1, Option.some.injEq, Prod.mk.injEq] at hp; obtain ⟨_, rfl⟩ := hp; exact S
  | _ => simp [pure1] at hp

theorem pureList_seen : ∀ {cs : List V} {xs : List D} {h h' : List Obj}, pureList h cs = some (xs, h') → Seen hv h → Seen hv h'
  | [], xs, h, h', hp, S => by simp only [pureList, Option.some.injEq, Prod.mk.injEq] at hp; obtain ⟨_, rfl⟩ := hp; exact S
  | c :: cs, xs, h, h', hp, S => by
    simp only [pureList] at hp
    split at hp
    · rename_i h1
      split at hp
      · rename_i h2
        simp only [Option.some.injEq, Prod.mk.injEq] at hp
        obtain ⟨_, rfl⟩ := hp
        exact pureList_seen h2 (pure1_seen h1 S)
      · cases hp
    · cases hp

theorem pureV_seen {A : V} {x : D} (hp : pureV h A = some (x, h')) (S : Seen hv h) : Seen hv h' := by
  unfold pureV at hp
  split at hp
  · simp only [Option.map_eq_some_iff, Prod.exists, Prod.mk.injEq] at hp
    obtain ⟨xs, h1, hl, _, rfl⟩ := hp
    exact pureList_seen hl S
  · exact pure1_seen hp S

theorem pureVs_seen : ∀ {cs : List V} {xs : List D} {h h' : List Obj}, pureVs h cs = some (xs, h') → Seen hv h → Seen hv h'
  | [], xs, h, h', hp, S => by simp only [pureVs, Option.some.injEq, Prod.mk.injEq] at hp; obtain ⟨_, rfl⟩ := hp; exact S
  | c :: cs, xs, h, h', hp, S => by
    simp only [pureVs] at hp
    split at hp
    · rename_i h1
      split at hp
      · rename_i h2
        simp only [Option.some.injEq, Prod.mk.injEq] at hp
        obtain ⟨_, rfl⟩ := hp
        exact pureVs_seen h2 (pureV_seen h1 S)
      · cases hp
    · cases hp

theorem argVs_seen : ∀ {cs as : List V} {h h' : List Obj}, cs.all argPure = true → argVs h cs = some (as, h') → Seen hv h → Seen hv h' ∧ as.flatMap V.ids = []
  | [], as, h, h', _, hp, S => by simp only [argVs, Option.some.injEq, Prod.mk.injEq] at hp; obtain ⟨rfl, rfl⟩ := hp; exact ⟨S, rfl⟩
  | c :: cs, as, h, h', hc, hp, S => by
    simp only [List.all_cons, Bool.and_eq_true] at hc
    simp only [argVs] at hp
    split at hp
    · rename_i y h1 e1
      split at hp
      · rename_i h2
        simp only [Option.some.injEq, Prod.mk.injEq] at hp
        obtain ⟨rfl, rfl⟩ := hp
        have key : Seen hv h1 ∧ y.ids = [] := by
          unfold argV at e1
          split at e1
          · simp [argPure] at hc
          · simp [argPure] at hc
          · simp [argPure] at hc
          · simp only [Option.some.injEq, Prod.mk.injEq] at e1; obtain ⟨rfl, rfl⟩ := e1; exact ⟨S, rfl⟩
          · simp only [Option.map_eq_some_iff, Prod.exists, Prod.mk.injEq] at e1
            obtain ⟨x, h3, hl, rfl, rfl⟩ := e1
            exact ⟨pureV_seen hl S, rfl⟩
        obtain ⟨k1, k2⟩ := argVs_seen hc.2 h2 key.1
        exact ⟨k1, by simp [key.2, k2]⟩
      · cases hp
    · cases hp

theorem callWith_seen {run : Run} {f : FuncId} {args : List V} {x : V} (ha : args.all argPure = true) (hx : callWith run f args h = some (x, h')) (S : Seen hv h) : Seen hv h' := by
  unfold callWith at hx
  split at hx
  · cases hx
  · rename_i as h1 hargs
    obtain ⟨S1, hids⟩ := argVs_seen ha hargs S
    simp only [hids, addIds] at hx
    have hre : reach h1 [] = [] := by simp [reach, close]
    rw [hre] at hx
    split at hx
    · split at hx
      · split at hx
        · simp only [Option.some.injEq, Prod.mk.injEq] at hx
          obtain ⟨_, rfl⟩ := hx
          simp only [setAll]
          exact S1.append _
        · cases hx
      · cases hx
    · cases hx

theorem buildSliceV_seen {t : TypeId} {n : Nat} {parts : List (Nat × V)} {x : V} (hx : buildSliceV P h t n parts = some (x, h')) (S : Seen hv h) : Seen hv h' := by
  unfold buildSliceV at hx
  split at hx
  · split at hx
    · split at hx
      · split at hx
        · rename_i hp
          split at hx
          · simp only [Option.some.injEq, Prod.mk.injEq] at hx
            obtain ⟨_, rfl⟩ := hx
            exact (pureVs_seen hp S).append _
          · cases hx
        · cases hx
      · cases hx
    · cases hx
  · cases hx

theorem appendV_seen {ts tx : TypeId} {A B x : V} (hx : appendV P h ts tx A B = some (x, h')) (S : Seen hv h) : Seen hv h' := by
  unfold appendV at hx
  split at hx
  · split at hx
    · split at hx
      · split at hx
        · split at hx
          · simp only [Option.some.injEq, Prod.mk.injEq] at hx
            obtain ⟨_, rfl⟩ := hx
            exact S.append _
          · cases hx
        · split at hx
          · rename_i ho
            split at hx
            · simp only [Option.some.injEq, Prod.mk.injEq] at hx
              obtain ⟨_, rfl⟩ := hx
              exact S.setArr ho _
            · cases hx
          · cases hx
        · cases hx
      · cases hx
    · cases hx
  · cases hx

theorem opV_seen {run : Run} {s : Slots} {o : Oper} {x : V} (hm : mild G s o = true) (hx : opV P G run s h o = some (x, h')) (S : Seen hv h) : Seen hv h' := by
  have hw : ∀ {y : Option V}, withH h y = some (x, h') → Seen hv h' := fun {y} e => by
    cases y with
    | none => cases e
    | some y => simp only [withH, Option.map_some, Option.some.injEq, Prod.mk.injEq] at e; rw [← e.2]; exact S
  cases ho : o.op with
  | move a | assign a =>
    simp only [opV, ho, Option.some.injEq, Prod.mk.injEq] at hx; rw [← hx.2]; exact S
  | pick _ _ _ | binOp _ _ _ _ _ | unOp _ _ _ | fieldAddr _ _ _ | extract _ _ | field _ _ _ | index _ _ _ | typeAssert _ _ _ _ | build _ _ | load _ _ | slice _ _ _ _ _ | indexAddr _ _ _ =>
    simp only [opV, ho] at hx
    exact hw hx
  | nilCheck a =>
    simp only [opV, ho] at hx
    cases hv' : ev G s a <;> simp only [hv', nilCheckV, Option.some.injEq, Prod.mk.injEq, reduceCtorEq] at hx <;> (rw [← hx.2]; exact S)
  | alloc t =>
    simp only [opV, ho, allocV] at hx
    split at hx
    · split at hx
      · simp only [Option.some.injEq, Prod.mk.injEq] at hx; rw [← hx.2]; exact S.append _
      · cases hx
    · cases hx
  | box t a =>
    simp only [opV, ho] at hx
    split at hx
    · simp only [Option.some.injEq, Prod.mk.injEq] at hx; rw [← hx.2]; exact S.append _
    · cases hx
  | buildSlice _ _ _ => simp only [opV, ho] at hx; exact buildSliceV_seen hx S
  | convert src dst a =>
    simp only [opV, ho] at hx
    unfold convV at hx
    split at hx
    · split at hx
      · split at hx
        · simp only [Option.some.injEq, Prod.mk.injEq] at hx; rw [← hx.2]; exact S.append _
        · cases hx
      · cases hx
    · simp only [Option.map_eq_some_iff, Prod.mk.injEq] at hx
      obtain ⟨_, _, _, rfl⟩ := hx
      exact S
  | makeInterface t a =>
    simp only [opV, ho, ifaceV] at hx
    split at hx
    · cases hx
    · simp only [Option.map_eq_some_iff, Prod.exists, Prod.mk.injEq] at hx
      obtain ⟨y, h1, hp, _, rfl⟩ := hx
      exact pureV_seen hp S
    · cases hx
  | makeFunc fn first cap =>
    cases fn <;> simp only [opV, ho] at hx
    · split at hx
      · simp only [Option.some.injEq, Prod.mk.injEq] at hx; rw [← hx.2]; exact S
      · cases hx
    all_goals cases hx
  | makeSlice t l c =>
    simp only [opV, ho] at hx
    unfold makeSliceV at hx
    split at hx
    · split at hx
      · split at hx
        · simp only [Option.some.injEq, Prod.mk.injEq] at hx; rw [← hx.2]; exact S.append _
        · cases hx
      · cases hx
    · cases hx
  | store _ _ _ => simp [mild, ho] at hm
  | call c =>
    simp only [opV, ho] at hx
    simp only [mild, ho] at hm
    cases hc : c.callee with
    | invoke _ _ => rw [hc] at hx; cases hx
    | builtin b =>
      rw [hc] at hx
      simp only at hx
      unfold builtinV at hx
      split at hx
      · simp only [Option.map_eq_some_iff, Prod.mk.injEq] at hx; obtain ⟨_, _, _, rfl⟩ := hx; exact S
      · exact appendV_seen hx S
      · simp only [Option.map_eq_some_iff, Prod.mk.injEq] at hx; obtain ⟨_, _, _, rfl⟩ := hx; exact S
      · simp only [Option.map_eq_some_iff, Prod.mk.injEq] at hx; obtain ⟨_, _, _, rfl⟩ := hx; exact S
      · cases hx
    | value f =>
      rw [hc] at hx hm
      simp only [Bool.and_eq_true] at hx hm
      split at hm
      · rename_i g hg
        rw [hg] at hx
        exact callWith_seen hm.2 hx S
      · simp at hm
  | _ => simp [opV, ho] at hx

theorem getD_set {tmps : Array Value} {d t : Nat} {v : Value} (hd : d < tmps.size) : (tmps.setIfInBounds d v).getD t undef = if d = t then v else tmps.getD t undef := by
  simp only [Array.getD_eq_getD_getElem?, Array.getElem?_setIfInBounds]
  by_cases e : d = t
  · subst e; simp [hd]
  · simp [e]

theorem SRel.put {a : Act} {s : Slots} {dst : Option Tmp} {v : Value} {x : V} (hs : SRel X ρ h w a.tmps s) (hv : VRel X ρ h w v x) (hd : ∀ d, dst = some d → d < a.tmps.size) : SRel X ρ h w (a.put dst v).tmps (putV s dst x) := by
  cases dst with
  | none => exact hs
  | some d =>
    intro t
    simp only [Act.put, putV, sget, getD_set (hd d rfl)]
    split
    · exact hv
    · exact hs t

theorem put_size (a : Act) (dst : Option Tmp) (v : Value) : (a.put dst v).tmps.size = a.tmps.size := by
  cases dst <;> simp [Act.put]

theorem put_defers (a : Act) (dst : Option Tmp) (v : Value) : (a.put dst v).defers = a.defers := by
  cases dst <;> rfl

theorem wanted_sound {all : List Oper} {s : Slots} {a : Act} {o : Oper} {b : Bool} (hw : wantedV all s o.guard = some b) (hs : SRel X ρ h w a.tmps s) : Region.wanted o (yielded all.toArray a.tmps) = b := by
  unfold wantedV at hw
  unfold Region.wanted
  cases hgu : o.guard with
  | none => rw [hgu] at hw; simpa using hw
  | some p =>
    obtain ⟨j, want⟩ := p
    rw [hgu] at hw
    simp only at hw ⊢
    have hy : ∀ d, (all[j]?).bind (·.dst) = some d → yielded all.toArray a.tmps j = (match a.tmps[d]? with | some (.bool b) => some b | _ => none) := fun d hd => by
      have e : ((all.toArray[j]?).bind (·.dst)).bind (a.tmps[·]?) = a.tmps[d]? := by rw [List.getElem?_toArray, hd]; rfl
      unfold yielded
      rw [e]
      cases a.tmps[d]? with
      | none => rfl
      | some v => cases v <;> rfl
    split at hw
    · rename_i hn
      simp only [Option.some.injEq] at hw; subst hw
      have : yielded all.toArray a.tmps j = none := by simp [yielded, hn]
      rw [this]; rfl
    · rename_i d hd
      rw [hy d hd]
      have hr := hs d
      have hgd : a.tmps.getD d undef = (a.tmps[d]?).getD undef := by simp [Array.getD_eq_getD_getElem?]
      rw [hgd] at hr
      split at hw
      · rename_i b' hb
        simp only [Option.some.injEq] at hw; subst hw
        rw [hb] at hr
        cases ht : a.tmps[d]? with
        | none => rw [ht] at hr; cases hr
        | some v =>
          rw [ht] at hr
          simp only [Option.getD_some] at hr
          cases hr
          simp
      · rename_i hb
        simp only [Option.some.injEq] at hw; subst hw
        rw [hb] at hr
        obtain ⟨us, hu, _⟩ := hr
        cases ht : a.tmps[d]? with
        | none => rfl
        | some v =>
          rw [ht] at hu
          simp only [Option.getD_some] at hu
          subst hu
          rfl
      · cases hw

/-- The state of a call. -/
structure St (X : Nat → Nat → Prop) (G : Nat → Option (List D)) (nt : Nat) (ρ : Places) (h : List Obj) (w : World) (a : Act) (s : Slots) : Prop where
  rel : HRel X ρ h w
  glob : GRel X G ρ h w
  slots : SRel X ρ h w a.tmps s
  size : a.tmps.size = nt

theorem stepI_sound {run : Run} {nt : Nat} {all : List Oper} {hint : List Nat} {Q : Exit → Act → World → Prop} (hrun : RunOk P G run) (hhas : RunHas P run) (hdst : ∀ o ∈ all, ∀ d, o.dst = some d → d < nt)
    {i : Nat} {s s1 : Slots} {h h1 : List Obj} {a : Act} {K : Act → World → Prop} (hr : stepI P G run all hint hv i s h = some (s1, h1)) (S : St X G nt ρ h w a s) (hseen : hint ≠ [] → Seen hv h)
    (hk : ∀ ρ1 a1 w1, Stp X ρ h w ρ1 h1 w1 → St X G nt ρ1 h1 w1 a1 s1 → a1.defers = a.defers → K a1 w1) : wpOp P all.toArray Q i K a w := by
  unfold wpOp
  simp only [stepI, execI] at hr
  have cont : ∀ (dst : Option Tmp) (x : V), (∀ d, dst = some d → d < nt) → putV s dst x = s1 → ∀ v ρ' w', Stp X ρ h w ρ' h1 w' → VRel X ρ' h1 w' v x → K (a.put dst v) w' := fun dst x hd e v ρ1 w1 st hv =>
    hk ρ1 _ w1 st ⟨st.rel, S.glob.mono st.fr, e ▸ SRel.put (S.slots.mono st) hv (fun d e => by rw [S.size]; exact hd d e), (put_size _ _ _).trans S.size⟩ (put_defers _ _ _)
  cases hi : all[i]? with
  | none =>
    rw [hi] at hr
    have hi' : all.toArray[i]? = none := by simpa using hi
    rw [hi']
    simp only [Option.some.injEq, Prod.mk.injEq] at hr
    obtain ⟨rfl, rfl⟩ := hr
    exact hk ρ a w (Stp.refl S.rel) S rfl
  | some o =>
    rw [hi] at hr
    have hi' : all.toArray[i]? = some o := by simpa using hi
    rw [hi']
    simp only at hr ⊢
    have hd := hdst o (List.mem_of_getElem? hi)
    cases hw : wantedV all s o.guard with
    | none => rw [hw] at hr; cases hr
    | some b =>
      rw [hw] at hr
      rw [wanted_sound hw S.slots]
      cases b with
      | false =>
        simp only [obind, Bool.false_eq_true, if_false, Option.some.injEq, Prod.mk.injEq] at hr ⊢
        obtain ⟨e, rfl⟩ := hr
        exact cont o.dst (.tup []) hd e undef ρ w (Stp.refl S.rel) ⟨#[], rfl, rfl, fun j c hj => by simp at hj⟩
      | true =>
        simp only [obind, if_true] at hr ⊢
        refine .inl ?_
        have hop : ∀ x, opV P G run s h o = some (x, h1) → putV s o.dst x = s1 → o.wp P a w K Q := fun x hx e =>
          opV_sound hrun hhas hx S.rel S.glob S.slots fun v ρ1 w1 st hv => cont o.dst x hd e v ρ1 w1 st hv
        cases hc : hint.contains i with
        | true =>
          rw [hc, if_pos rfl] at hr
          have hne : hint ≠ [] := fun e => by rw [e] at hc; simp at hc
          cases hb : blindV P G hv s o with
          | none => rw [hb] at hr; cases hr
          | some x =>
            rw [hb] at hr
            simp only [withH, Option.map_some, Option.some.injEq, Prod.mk.injEq] at hr
            obtain ⟨e, rfl⟩ := hr
            exact hop x (blindV_op (hseen hne) hb) e
        | false =>
          rw [hc, if_neg (by decide)] at hr
          cases hm : (hint.isEmpty || mild G s o) with
          | false => rw [hm, if_neg (by decide)] at hr; cases hr
          | true =>
          rw [hm, if_pos rfl] at hr
          cases hx : opV P G run s h o with
          | none => rw [hx] at hr; cases hr
          | some p =>
            obtain ⟨x, h2⟩ := p
            rw [hx] at hr
            simp only [Option.some.injEq, Prod.mk.injEq] at hr
            obtain ⟨e, rfl⟩ := hr
            exact hop x hx e

theorem stepI_seen {run : Run} {all : List Oper} {hint : List Nat} {i : Nat} {s s1 : Slots} {h1 : List Obj} (hr : stepI P G run all hint hv i s h = some (s1, h1)) (hseen : hint ≠ [] → Seen hv h) : hint ≠ [] → Seen hv h1 := by
  intro hne
  have S := hseen hne
  simp only [stepI, execI] at hr
  cases hi : all[i]? with
  | none => rw [hi] at hr; simp only [Option.some.injEq, Prod.mk.injEq] at hr; rw [← hr.2]; exact S
  | some o =>
    rw [hi] at hr
    simp only at hr
    cases hw : wantedV all s o.guard with
    | none => rw [hw] at hr; cases hr
    | some b =>
      rw [hw] at hr
      cases b with
      | false => simp only [obind, Bool.false_eq_true, if_false, Option.some.injEq, Prod.mk.injEq] at hr; rw [← hr.2]; exact S
      | true =>
        simp only [obind, if_true] at hr
        cases hc : hint.contains i with
        | true =>
          rw [hc, if_pos rfl] at hr
          cases hb : blindV P G hv s o with
          | none => rw [hb] at hr; cases hr
          | some x => rw [hb] at hr; simp only [withH, Option.map_some, Option.some.injEq, Prod.mk.injEq] at hr; rw [← hr.2]; exact S
        | false =>
          rw [hc, if_neg (by decide)] at hr
          cases hm : (hint.isEmpty || mild G s o) with
          | false => rw [hm, if_neg (by decide)] at hr; cases hr
          | true =>
          rw [hm, if_pos rfl] at hr
          have hemp : hint.isEmpty = false := by cases hint with | nil => exact absurd rfl hne | cons _ _ => rfl
          rw [hemp, Bool.false_or] at hm
          cases hx : opV P G run s h o with
          | none => rw [hx] at hr; cases hr
          | some p =>
            obtain ⟨x, h2⟩ := p
            rw [hx] at hr
            simp only [Option.some.injEq, Prod.mk.injEq] at hr
            rw [← hr.2]
            exact opV_seen hm hx S

theorem runL_sound {run : Run} {nt : Nat} {all : List Oper} {hint : List Nat} {Q : Exit → Act → World → Prop} (hrun : RunOk P G run) (hhas : RunHas P run) (hdst : ∀ o ∈ all, ∀ d, o.dst = some d → d < nt) :
    ∀ (l : List Nat) (ρ : Places) (s : Slots) (h : List Obj) (a : Act) (w : World) (s' : Slots) (h' : List Obj), runL P G run all hint hv l s h = some (s', h') → St X G nt ρ h w a s → (hint ≠ [] → Seen hv h) →
      (∀ ρ' a' w', Stp X ρ h w ρ' h' w' → St X G nt ρ' h' w' a' s' → a'.defers = a.defers → Q .normal a' w') → wpOps P all.toArray Q l a w
  | [], ρ, s, h, a, w, s', h', hr, S, hseen, hq => by
    simp only [runL, Option.some.injEq, Prod.mk.injEq] at hr; obtain ⟨rfl, rfl⟩ := hr
    exact hq ρ a w (Stp.refl S.rel) S rfl
  | i :: l, ρ, s, h, a, w, s', h', hr, S, hseen, hq => by
    rw [wpOps_cons]
    simp only [runL] at hr
    cases hs : stepI P G run all hint hv i s h with
    | none => rw [hs] at hr; cases hr
    | some p =>
      obtain ⟨s1, h1⟩ := p
      rw [hs] at hr
      exact stepI_sound hrun hhas hdst hs S hseen fun ρ1 a1 w1 st S1 hd1 =>
        runL_sound hrun hhas hdst l ρ1 s1 h1 a1 w1 s' h' hr S1 (stepI_seen hs hseen) fun ρ2 a2 w2 st2 S2 hd2 => hq ρ2 a2 w2 (st.trans S.rel st2) S2 (hd2.trans hd1)

end
end Go.Am
