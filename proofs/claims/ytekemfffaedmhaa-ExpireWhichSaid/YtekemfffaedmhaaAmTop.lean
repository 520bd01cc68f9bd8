/- A law's call, from what its machine does to what its row says. -/
import Derived.Test.YtekemfffaedmhaaAmRead
import Derived.Carry
set_option linter.all false
namespace Go.Am
open Go.RowKit Go.ChangeShapes Go.WideShapes
section
variable {H : Type} {enc : TypeId × Value → H} {P : Program} {w : World}

theorem arg_rep {m b0 : Nat} {t : TypeId} {v : Value} {d : DataW H} {ps : List MemPlace} (hm : plainTy P m t = true) (hok : Value.okWide P w .any b0 t v) (hd : DataW.Trod enc P w 0 (fun _ => true) true t v d ps) :
    ∃ x, HasTy P m t x ∧ Rep NoMut w v x := by
  obtain ⟨x, hx, hl, hc⟩ := arg_reads hm hd
  refine ⟨x, hx, ?_⟩
  have one : ∀ {v : Value} {x : D}, v.cells = #[v] → x.isCell = true → CellsR w v.cells.toList x.cells → Rep NoMut w v x := fun hv hx hc => by
    rw [hv, D.cells_one hx] at hc
    obtain ⟨v', h1, h2, _⟩ := hc.2 0 _ rfl
    simp only [List.getElem?_cons_zero, Option.some.injEq] at h1
    subst h1
    exact h2
  cases m with
  | zero => simp [plainTy] at hm
  | succ m =>
    simp only [plainTy] at hm
    simp only [HasTy] at hx
    split at hm
    · rename_i k he
      obtain ⟨n, rfl⟩ := okWide_int he hok
      rw [he] at hx
      obtain ⟨i, rfl, _⟩ := hx
      exact one rfl rfl ⟨hl, hc⟩
    · rename_i he
      obtain ⟨n, rfl⟩ := okWide_bool he hok
      rw [he] at hx
      obtain ⟨i, rfl⟩ := hx
      exact one rfl rfl ⟨hl, hc⟩
    · rename_i he
      obtain ⟨n, rfl⟩ := okWide_string he hok
      rw [he] at hx
      obtain ⟨i, rfl, _⟩ := hx
      exact one rfl rfl ⟨hl, hc⟩
    · rename_i e he
      obtain ⟨a, l, c, rfl⟩ := okWide_slice he hok
      rw [he] at hx
      obtain ⟨i, rfl, _⟩ := hx
      exact one rfl rfl ⟨hl, hc⟩
    · rename_i fs he
      obtain ⟨cs, rfl, _⟩ := okWide_struct he hok
      rw [he] at hx
      obtain ⟨ys, rfl, _⟩ := hx
      have hcs : ∀ (j : Nat) (c : D), (ys.flatMap D.cells)[j]? = some c → ∃ v, cs[j]? = some v ∧ Rep NoMut w v c ∧ c.isCell = true := fun j c hj => by
        simpa [Value.cells, D.cells] using hc j c hj
      refine .agg cs _ (fun j => cs.getD j undef) (by simpa [Value.cells, D.cells] using hl) (fun j c hj => ?_) fun j c hj => ?_
      · obtain ⟨v, h1, h2, h3⟩ := hcs j c hj
        exact ⟨by rw [h1, Array.getD_eq_getD_getElem?, h1]; rfl, h3⟩
      · obtain ⟨v, h1, h2, h3⟩ := hcs j c hj
        rw [Array.getD_eq_getD_getElem?, h1]; exact h2
    · cases hm

/-- Of what is claimed of each type of the parameters. -/
def paramOk (P : Program) (m : Nat) (t : TypeId) : Bool := plainTy P m t && P.readableRec t && decide (t < P.types.size)

theorem args_rep {m b0 : Nat} : ∀ (ts : List TypeId) (vs : List Value) (ds : List (DataW H)) (ps : List MemPlace), (∀ t ∈ ts, plainTy P m t = true) → (∀ (j : Nat) t v, ts[j]? = some t → vs[j]? = some v → Value.okWide P w .any b0 t v) →
    DataW.TrodAll enc P w 0 (fun _ => true) true ts vs ds ps → ∃ xs : List D, All2 (HasTy P m) ts xs ∧ All2 (Rep NoMut w) vs xs
  | [], vs, ds, ps, _, _, h => by
    obtain ⟨rfl, _, _⟩ := trodAll_nil h
    exact ⟨[], .nil, .nil⟩
  | t :: ts, vs, ds, ps, hp, hok, h => by
    obtain ⟨v, vs', d, ds', p, q, rfl, rfl, rfl, hd, hr⟩ := trodAll_cons h
    obtain ⟨x, h1, h2⟩ := arg_rep (hp t (List.mem_cons_self ..)) (hok 0 t v rfl rfl) hd
    obtain ⟨xs, h3, h4⟩ := args_rep ts vs' ds' q (fun t ht => hp t (List.mem_cons_of_mem _ ht)) (fun j t v h1 h2 => hok (j + 1) t v (by simpa using h1) (by simpa using h2)) hr
    exact ⟨x :: xs, .cons h1 h3, .cons h2 h4⟩

theorem args_stay (hl : laidOutB P = true) {W' : World} (hb : Below w.heap.size w W') : ∀ (ts : List TypeId) (vs : List Value) (ds : List (DataW H)) (ps : List MemPlace), (∀ t ∈ ts, P.readableRec t = true ∧ t < P.types.size) →
    DataW.TrodAll enc P w 0 (fun _ => true) true ts vs ds ps → (∀ x ∈ ps, x.block < w.heap.size) → DataW.TrodAll enc P W' 0 (fun b => decide (b < w.heap.size)) true ts vs ds ps
  | [], vs, ds, ps, _, h, _ => by
    obtain ⟨rfl, rfl, rfl⟩ := trodAll_nil h
    exact h
  | t :: ts, vs, ds, ps, hp, h, hlt => by
    obtain ⟨v, vs', d, ds', p, q, rfl, rfl, rfl, hd, hr⟩ := trodAll_cons h
    obtain ⟨k1, k2⟩ := hp t (List.mem_cons_self ..)
    exact trodAll_cons_mk (Below.trod hl k1 k2 hd hb fun x hx => hlt x (List.mem_append_left _ hx))
      (args_stay hl hb ts vs' ds' q (fun t ht => hp t (List.mem_cons_of_mem _ ht)) hr fun x hx => hlt x (List.mem_append_right _ hx))

theorem All2.length {α β : Type} {R : α → β → Prop} : ∀ {as : List α} {bs : List β}, All2 R as bs → as.length = bs.length
  | _, _, .nil => rfl
  | _, _, .cons _ h => by simp [h.length]

theorem All2.get {α β : Type} {R : α → β → Prop} : ∀ {as : List α} {bs : List β}, All2 R as bs → ∀ (j : Nat) (b : β), bs[j]? = some b → ∃ a, as[j]? = some a ∧ R a b
  | _, _, .nil, j, b, hj => by simp at hj
  | _, _, .cons h hs, 0, b, hj => by simp only [List.getElem?_cons_zero, Option.some.injEq] at hj; subst hj; exact ⟨_, rfl, h⟩
  | _, _, .cons _ hs, j + 1, b, hj => by simpa using hs.get j b (by simpa using hj)

/-- A run that ends with true: so does the call, and nothing that was there has turned. -/
theorem law_calls {run : Run} {f : FuncId} {G : Nat → Option (List D)} (hrun : RunOk P G run) {xs : List D} {h' : List Obj} (hx : run f (xs.map .d) [] = some ([.d (.bool true)], h')) {vs : List Value} (hv : All2 (Rep NoMut w) vs xs)
    (hg : GRel NoMut G [] [] w) : Calls P f vs.toArray w fun e w' => e = .returned (.bool true) ∧ Below w.heap.size w w' := by
  have hmut : ∀ b j, Mut NoMut [] [] b j → NoMut b j := by
    rintro b j (h | ⟨id, c, o, h, _⟩)
    · exact h
    · simp at h
  have H : HRel NoMut [] [] w := ⟨rfl, fun id o ho => by simp at ho, fun b j h => h.elim, fun _ _ _ _ h => by simp at h, fun _ _ _ _ _ h => by simp at h⟩
  have ha : ArgRel NoMut [] [] w vs (xs.map .d) := ⟨by simp [hv.length], fun j A hj => by
    simp only [List.getElem?_map, Option.map_eq_some_iff] at hj
    obtain ⟨x, hj, rfl⟩ := hj
    obtain ⟨v, h1, h2⟩ := hv.get j x hj
    exact ⟨v, h1, h2.mono fun b j v hm hc => ⟨hc, fun h => hm (hmut b j h)⟩⟩⟩
  refine (hrun f _ _ _ _ hx NoMut [] w vs H hg ha).mono ?_
  rintro e w' ⟨ρ', rv, rfl, st, us, l1, l2, rfl⟩
  obtain ⟨u, h1, h2⟩ := l2 0 _ rfl
  have : us = [u] := by
    match us, l1, h1 with
    | [u'], _, h1 => simpa using h1
  subst this
  refine ⟨?_, st.fr.os, st.fr.tape, st.fr.output, st.fr.size, fun k hk => (st.fr.block k hk fun id c => by simp).1⟩
  have h3 : Rep (Mut NoMut ρ' h') w' u (.bool true) := h2
  cases h3
  rfl

/-- What a law's row says, behind one call. -/
theorem law_contract {run : Run} {f : FuncId} {fn : Func} {s : ChangeSpec} {m : Nat} {tb : TypeId} {G : Nat → Option (List D)} {W : World} {base : Nat} {args : Array Value} {ds gs : List (DataW H)} {before : List MemPlace}
    (hl : laidOutB P = true) (hp : fn.params.toList.all (paramOk P m) = true) (hvars : s.vars = []) (hres : fn.resultTypes = #[tb]) (htb : P.underlying tb = some .bool)
    (hspec : ∀ ds : List (DataW H), ds.length = fn.params.size → s.fn H ds = { results := [.lit (.bool true)], args := ds, vars := [] })
    (hrun : RunOk P G run) (hx : ∀ xs : List D, All2 (HasTy P m) fn.params.toList xs → ∃ h', run f (xs.map .d) [] = some ([.d (.bool true)], h')) (hg : GRel NoMut G [] [] W)
    (hval : ∀ (j : Nat) t v, fn.params[j]? = some t → args[j]? = some v → Value.okWide P W .any base t v)
    (hW : DataW.Whole enc P fn.params.toList s.vars false W args.toList ds gs before) :
    Calls P f args W fun e W' => ∃ v, e = .returned v ∧ s.post enc P fn false true false false W args v W' := by
  have hW' := hW
  have hlt : ∀ x ∈ before, x.block < W.heap.size := fun x hx => hW'.lt x hx
  obtain ⟨p, q, hA, hV, rfl, _, _⟩ := hW
  rw [hvars] at hV
  obtain ⟨rfl, rfl⟩ : gs = [] ∧ q = [] := by
    cases gs with
    | nil => exact ⟨rfl, hV⟩
    | cons g gs => simp [DataW.TrodVars] at hV
  simp only [List.all_eq_true, paramOk, Bool.and_eq_true, decide_eq_true_eq] at hp
  obtain ⟨xs, h1, h2⟩ := args_rep fn.params.toList args.toList ds p (fun t ht => (hp t ht).1.1) (fun j t v h1 h2 => hval j t v (by simpa using h1) (by simpa using h2)) hA
  obtain ⟨h', hr⟩ := hx xs h1
  have hlen : ds.length = fn.params.size := by
    have : ∀ (ts : List TypeId) (vs : List Value) (ds : List (DataW H)) (ps : List MemPlace), DataW.TrodAll enc P W 0 (fun _ => true) true ts vs ds ps → ds.length = ts.length := by
      intro ts
      induction ts with
      | nil => intro vs ds ps h; obtain ⟨_, rfl, _⟩ := trodAll_nil h; rfl
      | cons t ts ih =>
        intro vs ds ps h
        obtain ⟨v, vs', d, ds', p, q, rfl, rfl, rfl, hd, hr⟩ := trodAll_cons h
        simp [ih _ _ _ hr]
    simpa using this _ _ _ _ hA
  have := law_calls hrun hr h2 hg
  rw [Array.toArray_toList] at this
  refine this.mono ?_
  rintro e W' ⟨rfl, hb⟩
  have hs := hspec ds hlen
  have hds : ds ++ ([] : List (DataW H)) = ds := List.append_nil ds
  refine ⟨_, rfl, ds, [], p ++ [], [], p, [], hW', ?_, ?_, ?_, hb.frame _, fun h => by cases h⟩
  · rw [hds, hs, hres]
    exact trodAll_cons_mk (shut_bool htb true) rfl
  · rw [hds, hs]
    exact args_stay hl hb _ _ _ _ (fun t ht => ⟨(hp t ht).1.2, (hp t ht).2⟩) hA fun x hx => hlt x (List.mem_append_left _ hx)
  · rw [hds, hs, hvars]
    rfl

end
end Go.Am
