/- The abstract machine's state and the model's: what stands for what. -/
import Derived.Test.YtekemfffaedmhaaAm
import Derived.Laws.AppendOwn
set_option linter.all false
namespace Go.Am

def D.isCell : D → Bool
  | .agg _ => false
  | _ => true

def flat (xs : List D) : List D := xs.flatMap D.cells

/-- The value v reads as the data x, out of cells that are not among M. -/
inductive Rep (M : Nat → Nat → Prop) (w : World) : Value → D → Prop
  | int (k : IntKind) (n : Int) : Rep M w (.int k n) (.int k n)
  | bool (b : Bool) : Rep M w (.bool b) (.bool b)
  | str (s : ByteArray) : Rep M w (.string s) (.str s)
  | nilI : Rep M w .nilIface .nilI
  | nilP : Rep M w (.pointer none) .nilP
  | nilM : Rep M w (.map none) .nilM
  | nilF : Rep M w .nilFunc .nilF
  | fn (f : FuncId) : Rep M w (.func (.func f) #[] #[]) (.fn f)
  | iface (t : TypeId) (v : Value) (x : D) : Rep M w v x → Rep M w (.iface t v) (.iface t x)
  | nil (a : Option Addr) (c : Nat) : Rep M w (.slice a 0 c) (.list [])
  | list (b off len cap sz : Nat) (xs : List D) (vs : Nat → Value) : len = xs.length → len ≤ cap → (∀ x ∈ xs, x.cells.length = sz) →
      (∀ (j : Nat) (c : D), (flat xs)[j]? = some c → w.cell? ⟨b, off + j, none⟩ = some (vs j) ∧ ¬ M b (off + j) ∧ c.isCell = true) →
      (∀ (j : Nat) (c : D), (flat xs)[j]? = some c → Rep M w (vs j) c) → Rep M w (.slice (some ⟨b, off, none⟩) len cap) (.list xs)
  | agg (cs : Array Value) (ds : List D) (vs : Nat → Value) : cs.size = ds.length → (∀ (j : Nat) (c : D), ds[j]? = some c → cs[j]? = some (vs j) ∧ c.isCell = true) →
      (∀ (j : Nat) (c : D), ds[j]? = some c → Rep M w (vs j) c) → Rep M w (.agg cs) (.agg ds)

theorem Rep.mono {M M' : Nat → Nat → Prop} {w w' : World}
    (hm : ∀ (b j : Nat) (v : Value), ¬ M b j → w.cell? ⟨b, j, none⟩ = some v → w'.cell? ⟨b, j, none⟩ = some v ∧ ¬ M' b j) {v : Value} {x : D} (h : Rep M w v x) : Rep M' w' v x := by
  induction h with
  | int k n => exact .int k n
  | bool b => exact .bool b
  | str s => exact .str s
  | nilI => exact .nilI
  | nilP => exact .nilP
  | nilM => exact .nilM
  | nilF => exact .nilF
  | fn f => exact .fn f
  | iface t v x _ ih => exact .iface t v x ih
  | nil a c => exact .nil a c
  | list b off len cap sz xs vs h1 h2 h3 h4 _ ih =>
    exact .list b off len cap sz xs vs h1 h2 h3 (fun j c hj => ⟨(hm _ _ _ (h4 j c hj).2.1 (h4 j c hj).1).1, (hm _ _ _ (h4 j c hj).2.1 (h4 j c hj).1).2, (h4 j c hj).2.2⟩) ih
  | agg cs ds vs h1 h2 _ ih => exact .agg cs ds vs h1 h2 ih

theorem Rep.one {M : Nat → Nat → Prop} {w : World} {v : Value} {x : D} (h : Rep M w v x) (hx : x.isCell = true) : v.oneCell' = true := by
  cases h <;> simp_all [Value.oneCell', D.isCell]

theorem Value.cells_one {v : Value} (h : v.oneCell' = true) : v.cells = #[v] := by
  cases v <;> simp_all [Value.oneCell', Value.cells]

theorem D.cells_one {x : D} (h : x.isCell = true) : x.cells = [x] := by
  cases x <;> simp_all [D.isCell, D.cells]

theorem Rep.cells {M : Nat → Nat → Prop} {w : World} {v : Value} {x : D} (h : Rep M w v x) :
    v.cells.size = x.cells.length ∧ ∀ (j : Nat) (c : D), x.cells[j]? = some c → ∃ u, v.cells[j]? = some u ∧ Rep M w u c ∧ c.isCell = true := by
  by_cases hx : x.isCell = true
  · rw [D.cells_one hx, Value.cells_one (h.one hx)]
    refine ⟨rfl, fun j c hj => ?_⟩
    cases j with
    | zero => simp at hj; subst hj; exact ⟨v, by simp, h, hx⟩
    | succ j => simp at hj
  · cases h with
    | agg cs ds vs h1 h2 h3 => exact ⟨h1, fun j c hj => ⟨vs j, (h2 j c hj).1, h3 j c hj, (h2 j c hj).2⟩⟩
    | _ => simp [D.isCell] at hx

/-! ### objects -/

abbrev Place := Option (Nat × Nat)
abbrev Places := List Place

def Obj.mutAt : Obj → Nat → Prop
  | .arr sz _ wm, j => wm * sz ≤ j
  | _, _ => True

def Obj.isArr : Obj → Bool
  | .arr .. => true
  | _ => false

/-- The cell j of block b is one that may still be written. -/
def Mut (X : Nat → Nat → Prop) (ρ : Places) (h : List Obj) (b j : Nat) : Prop := X b j ∨ ∃ (id c : Nat) (o : Obj), ρ[id]? = some (some (b, c)) ∧ h[id]? = some o ∧ o.mutAt j

def isSlice (v : Value) : Prop := ∃ a l c, v = .slice a l c
def isPtr (v : Value) : Prop := ∃ a, v = .pointer (some a)

def ArrVal (r : Place) (n : Nat) (v : Value) : Prop :=
  match r with
  | some (b, cap) => v = .slice (some ⟨b, 0, none⟩) n cap
  | none => n = 0 ∧ ∃ a, v = .slice a 0 0

def RoVal (M : Nat → Nat → Prop) (w : World) (v : Value) (cs : List D) : Prop :=
  ∃ (b o : Nat) (vs : Nat → Value), v = .pointer (some ⟨b, o, none⟩) ∧ (∀ (j : Nat) (c : D), cs[j]? = some c → w.cell? ⟨b, o + j, none⟩ = some (vs j) ∧ ¬ M b (o + j) ∧ c.isCell = true) ∧
    ∀ (j : Nat) (c : D), cs[j]? = some c → Rep M w (vs j) c

def V0 (X : Nat → Nat → Prop) (ρ : Places) (h : List Obj) (w : World) (v : Value) : V → Prop
  | .d x => Rep (Mut X ρ h) w v x
  | .nilS => v = .slice none 0 0
  | .arr id n => isSlice v ∧ ∃ (sz : Nat) (xs : List D) (wm : Nat) (r : Place), h[id]? = some (.arr sz xs wm) ∧ ρ[id]? = some r ∧ n ≤ xs.length ∧ (n = xs.length → ArrVal r n v)
  | .ptr id off => ∃ (o : Obj) (b c : Nat), h[id]? = some o ∧ o.isArr = false ∧ ρ[id]? = some (some (b, c)) ∧ v = .pointer (some ⟨b, off, none⟩)
  | .eptr id n i off => isPtr v ∧ ∃ (sz : Nat) (xs : List D) (wm : Nat) (r : Place), h[id]? = some (.arr sz xs wm) ∧ ρ[id]? = some r ∧ n ≤ xs.length ∧
      (n = xs.length → ∃ (b c : Nat), r = some (b, c) ∧ v = .pointer (some ⟨b, i * sz + off, none⟩))
  | .ro cs => RoVal (Mut X ρ h) w v cs
  | .dead => True
  | _ => False

def V1 (X : Nat → Nat → Prop) (ρ : Places) (h : List Obj) (w : World) (v : Value) : V → Prop
  | .clo f caps => ∃ us : Array Value, v = .func (.func f) #[] us ∧ us.size = caps.length ∧ ∀ (j : Nat) (c : V), caps[j]? = some c → ∃ u, us[j]? = some u ∧ V0 X ρ h w u c
  | x => V0 X ρ h w v x

def V2 (X : Nat → Nat → Prop) (ρ : Places) (h : List Obj) (w : World) (v : Value) : V → Prop
  | .agg cs => ∃ us : Array Value, v = .agg us ∧ us.size = cs.length ∧ ∀ (j : Nat) (c : V), cs[j]? = some c → ∃ u, us[j]? = some u ∧ V1 X ρ h w u c ∧ c.cellOk = true
  | x => V1 X ρ h w v x

def VRel (X : Nat → Nat → Prop) (ρ : Places) (h : List Obj) (w : World) (v : Value) : V → Prop
  | .tup vs => ∃ us : Array Value, v = .tuple us ∧ us.size = vs.length ∧ ∀ (j : Nat) (c : V), vs[j]? = some c → ∃ u, us[j]? = some u ∧ V2 X ρ h w u c
  | x => V2 X ρ h w v x

def Unfrozen (w : World) (b n : Nat) : Prop := ∀ j, j < n → w.frozen? ⟨b, j, none⟩ = false

def ObjRel (X : Nat → Nat → Prop) (ρ : Places) (h : List Obj) (w : World) (r : Place) : Obj → Prop
  | .box cs => ∃ (b c : Nat) (cur : Array Value) (e : TypeId) (fz : Nat × Nat), r = some (b, c) ∧ w.heap[b]? = some (.cells cur e fz) ∧ cur.size = cs.length ∧ Unfrozen w b cur.size ∧
      ∀ (j : Nat) (x : V), cs[j]? = some x → ∃ u, cur[j]? = some u ∧ V1 X ρ h w u x ∧ x.cellOk = true
  | .arr sz xs wm => wm ≤ xs.length ∧
    match r with
    | none => xs = []
    | some (b, cap) => ∃ (cur : Array Value) (e : TypeId) (fz : Nat × Nat), w.heap[b]? = some (.cells cur e fz) ∧ cur.size = cap * sz ∧ xs.length ≤ cap ∧ cap ≤ maxLen ∧ 0 < sz ∧ (∀ x ∈ xs, x.cells.length = sz) ∧
      Unfrozen w b cur.size ∧ ∀ (j : Nat) (x : D), (flat xs)[j]? = some x → ∃ u, cur[j]? = some u ∧ Rep (Mut X ρ h) w u x ∧ x.isCell = true
  | .siter s pos => ∃ (b c : Nat), r = some (b, c) ∧ w.heap[b]? = some (.stringIter s pos)

structure HRel (X : Nat → Nat → Prop) (ρ : Places) (h : List Obj) (w : World) : Prop where
  len : ρ.length = h.length
  obj : ∀ (id : Nat) (o : Obj), h[id]? = some o → ∃ r, ρ[id]? = some r ∧ ObjRel X ρ h w r o
  xlt : ∀ b j, X b j → b < w.heap.size
  xown : ∀ (id b c j : Nat), ρ[id]? = some (some (b, c)) → ¬ X b j
  inj : ∀ (i j b c c' : Nat), ρ[i]? = some (some (b, c)) → ρ[j]? = some (some (b, c')) → i = j

/-- What a step, or a call, leaves as it was. -/
structure Fr (X : Nat → Nat → Prop) (ρ : Places) (h : List Obj) (w : World) (ρ' : Places) (h' : List Obj) (w' : World) : Prop where
  os : w'.os = w.os
  tape : w'.tape = w.tape
  output : w'.output = w.output
  size : w.heap.size ≤ w'.heap.size
  block : ∀ b, b < w.heap.size → (∀ (id c : Nat), ρ[id]? ≠ some (some (b, c))) → w'.heap[b]? = w.heap[b]? ∧ ∀ (id c : Nat), ρ'[id]? ≠ some (some (b, c))
  imm : ∀ b j v, ¬ Mut X ρ h b j → w.cell? ⟨b, j, none⟩ = some v → w'.cell? ⟨b, j, none⟩ = some v ∧ ¬ Mut X ρ' h' b j

def EvoObj (o o' : Obj) (r r' : Place) : Prop :=
  match o, o' with
  | .box cs, .box cs' => cs'.length = cs.length ∧ r' = r
  | .arr sz xs _, .arr sz' xs' _ => sz' = sz ∧ xs.length ≤ xs'.length ∧ (xs'.length = xs.length → r' = r)
  | .siter .., .siter .. => r' = r
  | _, _ => False

/-- The first k objects are what they were, grown perhaps. -/
def Evo (k : Nat) (ρ : Places) (h : List Obj) (ρ' : Places) (h' : List Obj) : Prop :=
  ∀ (id : Nat) (o : Obj) (r : Place), id < k → h[id]? = some o → ρ[id]? = some r → ∃ o' r', h'[id]? = some o' ∧ ρ'[id]? = some r' ∧ EvoObj o o' r r'

section
variable {X : Nat → Nat → Prop} {ρ ρ' ρ'' : Places} {h h' h'' : List Obj} {w w' w'' : World}

theorem Fr.refl (ρ : Places) (h : List Obj) (w : World) : Fr X ρ h w ρ h w := ⟨rfl, rfl, rfl, Nat.le_refl _, fun _ _ hb => ⟨rfl, hb⟩, fun _ _ _ hm hc => ⟨hc, hm⟩⟩

theorem Fr.trans (a : Fr X ρ h w ρ' h' w') (b : Fr X ρ' h' w' ρ'' h'' w'') : Fr X ρ h w ρ'' h'' w'' where
  os := b.os.trans a.os
  tape := b.tape.trans a.tape
  output := b.output.trans a.output
  size := Nat.le_trans a.size b.size
  block := fun x hx hn => by
    obtain ⟨h1, h2⟩ := a.block x hx hn
    obtain ⟨h3, h4⟩ := b.block x (Nat.lt_of_lt_of_le hx a.size) h2
    exact ⟨h3.trans h1, h4⟩
  imm := fun x j v hm hc => by
    obtain ⟨h1, h2⟩ := a.imm x j v hm hc
    exact b.imm x j v h2 h1

theorem EvoObj.refl (o : Obj) (r : Place) : EvoObj o o r r := by
  cases o <;> simp [EvoObj]

theorem EvoObj.trans {o o' o'' : Obj} {r r' r'' : Place} (a : EvoObj o o' r r') (b : EvoObj o' o'' r' r'') : EvoObj o o'' r r'' := by
  cases o <;> cases o' <;> simp only [EvoObj] at a <;> cases o'' <;> simp only [EvoObj] at b ⊢
  · exact ⟨b.1.trans a.1, b.2.trans a.2⟩
  · obtain ⟨a1, a2, a3⟩ := a
    obtain ⟨b1, b2, b3⟩ := b
    exact ⟨b1.trans a1, Nat.le_trans a2 b2, fun e => (b3 (by omega)).trans (a3 (by omega))⟩
  · exact b.trans a

theorem Evo.refl (k : Nat) (ρ : Places) (h : List Obj) : Evo k ρ h ρ h := fun _ o r _ ho hr => ⟨o, r, ho, hr, EvoObj.refl o r⟩

theorem Evo.trans {k : Nat} (a : Evo k ρ h ρ' h') (b : Evo k ρ' h' ρ'' h'') : Evo k ρ h ρ'' h'' := fun id o r hk ho hr => by
  obtain ⟨o', r', h1, h2, h3⟩ := a id o r hk ho hr
  obtain ⟨o'', r'', h4, h5, h6⟩ := b id o' r' hk h1 h2
  exact ⟨o'', r'', h4, h5, h3.trans h6⟩

theorem Evo.mono {k k' : Nat} (a : Evo k ρ h ρ' h') (hk : k' ≤ k) : Evo k' ρ h ρ' h' := fun id o r hi => a id o r (Nat.lt_of_lt_of_le hi hk)

theorem lt_of_getElem? {α : Type} {l : List α} {i : Nat} {x : α} (h : l[i]? = some x) : i < l.length := by
  rcases Nat.lt_or_ge i l.length with h' | h'
  · exact h'
  · simp [List.getElem?_eq_none h'] at h

theorem RoVal.mono {M M' : Nat → Nat → Prop} (hm : ∀ (b j : Nat) (v : Value), ¬ M b j → w.cell? ⟨b, j, none⟩ = some v → w'.cell? ⟨b, j, none⟩ = some v ∧ ¬ M' b j) {v : Value} {cs : List D}
    (h : RoVal M w v cs) : RoVal M' w' v cs := by
  obtain ⟨b, o, vs, h1, h2, h3⟩ := h
  exact ⟨b, o, vs, h1, fun j c hj => ⟨(hm _ _ _ (h2 j c hj).2.1 (h2 j c hj).1).1, (hm _ _ _ (h2 j c hj).2.1 (h2 j c hj).1).2, (h2 j c hj).2.2⟩, fun j c hj => (h3 j c hj).mono hm⟩

theorem V0.mono (hf : Fr X ρ h w ρ' h' w') (he : Evo h.length ρ h ρ' h') {v : Value} {x : V} (hv : V0 X ρ h w v x) : V0 X ρ' h' w' v x := by
  cases x with
  | d x => exact Rep.mono hf.imm hv
  | nilS => exact hv
  | arr id n =>
    obtain ⟨hs, sz, xs, wm, r, h1, h2, h3, h4⟩ := hv
    obtain ⟨o', r', h5, h6, h7⟩ := he id _ r (lt_of_getElem? h1) h1 h2
    cases o' <;> simp only [EvoObj] at h7
    rename_i sz' xs' wm'
    obtain ⟨e1, e2, e3⟩ := h7
    refine ⟨hs, sz', xs', wm', r', h5, h6, Nat.le_trans h3 e2, fun e => ?_⟩
    rw [e3 (by omega)]
    exact h4 (by omega)
  | ptr id off =>
    obtain ⟨o, b, c, h1, h2, h3, h4⟩ := hv
    obtain ⟨o', r', h5, h6, h7⟩ := he id _ _ (lt_of_getElem? h1) h1 h3
    refine ⟨o', b, c, h5, ?_, ?_, h4⟩
    · cases o <;> cases o' <;> simp_all [EvoObj, Obj.isArr]
    · cases o <;> cases o' <;> simp_all [EvoObj, Obj.isArr]
  | eptr id n i off =>
    obtain ⟨hs, sz, xs, wm, r, h1, h2, h3, h4⟩ := hv
    obtain ⟨o', r', h5, h6, h7⟩ := he id _ r (lt_of_getElem? h1) h1 h2
    cases o' <;> simp only [EvoObj] at h7
    rename_i sz' xs' wm'
    obtain ⟨e1, e2, e3⟩ := h7
    refine ⟨hs, sz', xs', wm', r', h5, h6, Nat.le_trans h3 e2, fun e => ?_⟩
    rw [e3 (by omega), e1]
    exact h4 (by omega)
  | ro cs => exact RoVal.mono hf.imm hv
  | dead => trivial
  | mp _ => exact hv
  | clo _ _ => exact hv
  | agg _ => exact hv
  | tup _ => exact hv

theorem V1.mono (hf : Fr X ρ h w ρ' h' w') (he : Evo h.length ρ h ρ' h') {v : Value} {x : V} (hv : V1 X ρ h w v x) : V1 X ρ' h' w' v x := by
  cases x with
  | clo f caps =>
    obtain ⟨us, h1, h2, h3⟩ := hv
    exact ⟨us, h1, h2, fun j c hj => let ⟨u, h4, h5⟩ := h3 j c hj; ⟨u, h4, h5.mono hf he⟩⟩
  | d x => exact V0.mono (v := v) (x := .d x) hf he hv
  | nilS => exact V0.mono (v := v) (x := .nilS) hf he hv
  | arr a b => exact V0.mono (v := v) (x := .arr a b) hf he hv
  | ptr a b => exact V0.mono (v := v) (x := .ptr a b) hf he hv
  | eptr a b c d => exact V0.mono (v := v) (x := .eptr a b c d) hf he hv
  | ro a => exact V0.mono (v := v) (x := .ro a) hf he hv
  | mp a => exact V0.mono (v := v) (x := .mp a) hf he hv
  | agg a => exact V0.mono (v := v) (x := .agg a) hf he hv
  | tup a => exact V0.mono (v := v) (x := .tup a) hf he hv
  | dead => trivial

theorem V2.mono (hf : Fr X ρ h w ρ' h' w') (he : Evo h.length ρ h ρ' h') {v : Value} {x : V} (hv : V2 X ρ h w v x) : V2 X ρ' h' w' v x := by
  cases x with
  | agg cs =>
    obtain ⟨us, h1, h2, h3⟩ := hv
    exact ⟨us, h1, h2, fun j c hj => let ⟨u, h4, h5, h6⟩ := h3 j c hj; ⟨u, h4, h5.mono hf he, h6⟩⟩
  | d x => exact V1.mono (v := v) (x := .d x) hf he hv
  | nilS => exact V1.mono (v := v) (x := .nilS) hf he hv
  | arr a b => exact V1.mono (v := v) (x := .arr a b) hf he hv
  | ptr a b => exact V1.mono (v := v) (x := .ptr a b) hf he hv
  | eptr a b c d => exact V1.mono (v := v) (x := .eptr a b c d) hf he hv
  | ro a => exact V1.mono (v := v) (x := .ro a) hf he hv
  | mp a => exact V1.mono (v := v) (x := .mp a) hf he hv
  | clo a b => exact V1.mono (v := v) (x := .clo a b) hf he hv
  | tup a => exact V1.mono (v := v) (x := .tup a) hf he hv
  | dead => trivial

theorem VRel.mono (hf : Fr X ρ h w ρ' h' w') (he : Evo h.length ρ h ρ' h') {v : Value} {x : V} (hv : VRel X ρ h w v x) : VRel X ρ' h' w' v x := by
  cases x with
  | clo f caps => exact V2.mono (v := v) (x := .clo f caps) hf he hv
  | tup vs =>
    obtain ⟨us, h1, h2, h3⟩ := hv
    exact ⟨us, h1, h2, fun j c hj => let ⟨u, h4, h5⟩ := h3 j c hj; ⟨u, h4, h5.mono hf he⟩⟩
  | d x => exact V2.mono (v := v) (x := .d x) hf he hv
  | nilS => exact V2.mono (v := v) (x := .nilS) hf he hv
  | arr a b => exact V2.mono (v := v) (x := .arr a b) hf he hv
  | ptr a b => exact V2.mono (v := v) (x := .ptr a b) hf he hv
  | eptr a b c d => exact V2.mono (v := v) (x := .eptr a b c d) hf he hv
  | ro a => exact V2.mono (v := v) (x := .ro a) hf he hv
  | mp a => exact V2.mono (v := v) (x := .mp a) hf he hv
  | agg a => exact V2.mono (v := v) (x := .agg a) hf he hv
  | dead => trivial

theorem HRel.lt (H : HRel X ρ h w) {id b c : Nat} (hr : ρ[id]? = some (some (b, c))) : b < w.heap.size := by
  have hid : id < h.length := by rw [← H.len]; exact lt_of_getElem? hr
  obtain ⟨r, h1, h2⟩ := H.obj id h[id] (by simp [hid])
  rw [hr] at h1
  cases h1
  generalize h[id] = o at h2
  have : ∃ x, w.heap[b]? = some x := by
    cases o with
    | box cs => obtain ⟨b', c', cur, e, fz, e1, e2, _⟩ := h2; cases e1; exact ⟨_, e2⟩
    | arr sz xs wm => obtain ⟨_, cur, e, fz, e2, _⟩ := h2; exact ⟨_, e2⟩
    | siter s pos => obtain ⟨b', c', e1, e2⟩ := h2; cases e1; exact ⟨_, e2⟩
  obtain ⟨x, hx⟩ := this
  exact (Array.getElem?_eq_some_iff.1 hx).1

/-- An object whose block has not turned. -/
theorem ObjRel.kept (hf : Fr X ρ h w ρ' h' w') (he : Evo h.length ρ h ρ' h') {r : Place} {o : Obj} (ho : ObjRel X ρ h w r o)
    (hb : ∀ b c, r = some (b, c) → w'.heap[b]? = w.heap[b]?) : ObjRel X ρ' h' w' r o := by
  have hu : ∀ b c n, r = some (b, c) → Unfrozen w b n → Unfrozen w' b n := fun b c n e hu j hj => (World.frozen?_of_block (a := ⟨b, j, none⟩) (hb b c e)).trans (hu j hj)
  cases o with
  | box cs =>
    obtain ⟨b, c, cur, e, fz, h1, h2, h3, h4, h5⟩ := ho
    exact ⟨b, c, cur, e, fz, h1, (hb b c h1).trans h2, h3, hu b c _ h1 h4, fun j x hj => let ⟨u, h6, h7, h8⟩ := h5 j x hj; ⟨u, h6, h7.mono hf he, h8⟩⟩
  | arr sz xs wm =>
    refine ⟨ho.1, ?_⟩
    cases r with
    | none => exact ho.2
    | some p =>
      obtain ⟨b, c⟩ := p
      obtain ⟨_, cur, e, fz, h1, h2, h3, h4, h5, h6, h7, h8⟩ := ho
      exact ⟨cur, e, fz, (hb b c rfl).trans h1, h2, h3, h4, h5, h6, hu b c _ rfl h7, fun j x hj => let ⟨u, h9, h10, h11⟩ := h8 j x hj; ⟨u, h9, h10.mono hf.imm, h11⟩⟩
  | siter s pos =>
    obtain ⟨b, c, h1, h2⟩ := ho
    exact ⟨b, c, h1, (hb b c h1).trans h2⟩

end
end Go.Am
