/- What simp opens, when it carries out a function's text. What is not its turn yet hides behind a token: simp lets it be. -/
import Derived.Test.YtekemfffaedmhaaAmFix
import Derived.Test.YtekemfffaedmhaaAmSimp
set_option linter.all false
namespace Go.Am

attribute [simp] putV withH calleeV nilCheckV extractV pickV
attribute [simp] constV constCell binD intBin shiftBin strBin unD
attribute [simp] loadV loadFrom loadFromD storeV indexAddrV fieldAddrV fieldV indexV builtinV lenV foldV min2 max2 natOf? bound? bounds? sliceV
attribute [simp] argVs argV pureV pure1 pureList addIds back one setAll
attribute [simp] reach close idsAt
attribute [simp] resV solid
attribute [simp] freezeAll V.storable V.cellOk
@[simp] theorem get_nil {α : Type} (i : Nat) : ([] : List α)[i]? = none := rfl
@[simp] theorem get_zero {α : Type} (x : α) (l : List α) : (x :: l)[0]? = some x := rfl
@[simp] theorem get_succ {α : Type} (x : α) (l : List α) (i : Nat) : (x :: l)[i + 1]? = l[i]? := rfl
@[simp] theorem ev_tmp (G : Nat → Option (List D)) (s : Slots) (t : Tmp) : ev G s (.tmp t) = sget s t := rfl
@[simp] theorem ev_const (G : Nat → Option (List D)) (s : Slots) (v : Value) : ev G s (.const v) = constV v := rfl
@[simp] theorem ev_global (G : Nat → Option (List D)) (s : Slots) (g : Nat) : ev G s (.global g) = match G g with | some cs => .ro cs | none => .dead := rfl
@[simp] theorem ev_func (G : Nat → Option (List D)) (s : Slots) (f : FuncId) : ev G s (.func f) = .d (.fn f) := rfl
@[simp] theorem ren0_d (f : Nat → Option Nat) (x : D) : V.ren0 f (.d x) = some (.d x) := rfl
@[simp] theorem ren0_nilS (f : Nat → Option Nat)  : V.ren0 f (.nilS) = some (.nilS) := rfl
@[simp] theorem ren0_ro (f : Nat → Option Nat) (cs : List D) : V.ren0 f (.ro cs) = some (.ro cs) := rfl
@[simp] theorem ren0_dead (f : Nat → Option Nat)  : V.ren0 f (.dead) = some (.dead) := rfl
@[simp] theorem ren0_arr (f : Nat → Option Nat) (a b : Nat) : V.ren0 f (.arr a b) = (f a).map fun i => .arr i b := rfl
@[simp] theorem ren0_ptr (f : Nat → Option Nat) (a b : Nat) : V.ren0 f (.ptr a b) = (f a).map fun i => .ptr i b := rfl
@[simp] theorem ren0_eptr (f : Nat → Option Nat) (a b c d : Nat) : V.ren0 f (.eptr a b c d) = (f a).map fun i => .eptr i b c d := rfl
@[simp] theorem ren0_mp (f : Nat → Option Nat) (a : Nat) : V.ren0 f (.mp a) = (f a).map .mp := rfl
@[simp] theorem ren1_d (f : Nat → Option Nat) (x : D) : V.ren1 f (.d x) = some (.d x) := rfl
@[simp] theorem ren1_nilS (f : Nat → Option Nat)  : V.ren1 f (.nilS) = some (.nilS) := rfl
@[simp] theorem ren1_ro (f : Nat → Option Nat) (cs : List D) : V.ren1 f (.ro cs) = some (.ro cs) := rfl
@[simp] theorem ren1_dead (f : Nat → Option Nat)  : V.ren1 f (.dead) = some (.dead) := rfl
@[simp] theorem ren1_arr (f : Nat → Option Nat) (a b : Nat) : V.ren1 f (.arr a b) = (f a).map fun i => .arr i b := rfl
@[simp] theorem ren1_ptr (f : Nat → Option Nat) (a b : Nat) : V.ren1 f (.ptr a b) = (f a).map fun i => .ptr i b := rfl
@[simp] theorem ren1_eptr (f : Nat → Option Nat) (a b c d : Nat) : V.ren1 f (.eptr a b c d) = (f a).map fun i => .eptr i b c d := rfl
@[simp] theorem ren1_mp (f : Nat → Option Nat) (a : Nat) : V.ren1 f (.mp a) = (f a).map .mp := rfl
@[simp] theorem ren1_clo (f : Nat → Option Nat) (g : FuncId) (l : List V) : V.ren1 f (.clo g l) = (l.mapM (V.ren0 f)).map (.clo g) := rfl
@[simp] theorem ren2_d (f : Nat → Option Nat) (x : D) : V.ren2 f (.d x) = some (.d x) := rfl
@[simp] theorem ren2_nilS (f : Nat → Option Nat)  : V.ren2 f (.nilS) = some (.nilS) := rfl
@[simp] theorem ren2_ro (f : Nat → Option Nat) (cs : List D) : V.ren2 f (.ro cs) = some (.ro cs) := rfl
@[simp] theorem ren2_dead (f : Nat → Option Nat)  : V.ren2 f (.dead) = some (.dead) := rfl
@[simp] theorem ren2_arr (f : Nat → Option Nat) (a b : Nat) : V.ren2 f (.arr a b) = (f a).map fun i => .arr i b := rfl
@[simp] theorem ren2_ptr (f : Nat → Option Nat) (a b : Nat) : V.ren2 f (.ptr a b) = (f a).map fun i => .ptr i b := rfl
@[simp] theorem ren2_eptr (f : Nat → Option Nat) (a b c d : Nat) : V.ren2 f (.eptr a b c d) = (f a).map fun i => .eptr i b c d := rfl
@[simp] theorem ren2_mp (f : Nat → Option Nat) (a : Nat) : V.ren2 f (.mp a) = (f a).map .mp := rfl
@[simp] theorem ren2_clo (f : Nat → Option Nat) (g : FuncId) (l : List V) : V.ren2 f (.clo g l) = (l.mapM (V.ren0 f)).map (.clo g) := rfl
@[simp] theorem ren2_agg (f : Nat → Option Nat) (l : List V) : V.ren2 f (.agg l) = (l.mapM (V.ren1 f)).map .agg := rfl
@[simp] theorem ren_d (f : Nat → Option Nat) (x : D) : V.ren f (.d x) = some (.d x) := rfl
@[simp] theorem ren_nilS (f : Nat → Option Nat)  : V.ren f (.nilS) = some (.nilS) := rfl
@[simp] theorem ren_ro (f : Nat → Option Nat) (cs : List D) : V.ren f (.ro cs) = some (.ro cs) := rfl
@[simp] theorem ren_dead (f : Nat → Option Nat)  : V.ren f (.dead) = some (.dead) := rfl
@[simp] theorem ren_arr (f : Nat → Option Nat) (a b : Nat) : V.ren f (.arr a b) = (f a).map fun i => .arr i b := rfl
@[simp] theorem ren_ptr (f : Nat → Option Nat) (a b : Nat) : V.ren f (.ptr a b) = (f a).map fun i => .ptr i b := rfl
@[simp] theorem ren_eptr (f : Nat → Option Nat) (a b c d : Nat) : V.ren f (.eptr a b c d) = (f a).map fun i => .eptr i b c d := rfl
@[simp] theorem ren_mp (f : Nat → Option Nat) (a : Nat) : V.ren f (.mp a) = (f a).map .mp := rfl
@[simp] theorem ren_clo (f : Nat → Option Nat) (g : FuncId) (l : List V) : V.ren f (.clo g l) = (l.mapM (V.ren0 f)).map (.clo g) := rfl
@[simp] theorem ren_agg (f : Nat → Option Nat) (l : List V) : V.ren f (.agg l) = (l.mapM (V.ren1 f)).map .agg := rfl
@[simp] theorem ren_tup (f : Nat → Option Nat) (l : List V) : V.ren f (.tup l) = (l.mapM (V.ren2 f)).map .tup := rfl
@[simp] theorem ids0_d (x : D) : V.ids0 (.d x) = [] := rfl
@[simp] theorem ids0_nilS  : V.ids0 (.nilS) = [] := rfl
@[simp] theorem ids0_ro (cs : List D) : V.ids0 (.ro cs) = [] := rfl
@[simp] theorem ids0_dead  : V.ids0 (.dead) = [] := rfl
@[simp] theorem ids0_arr (a b : Nat) : V.ids0 (.arr a b) = [a] := rfl
@[simp] theorem ids0_ptr (a b : Nat) : V.ids0 (.ptr a b) = [a] := rfl
@[simp] theorem ids0_eptr (a b c d : Nat) : V.ids0 (.eptr a b c d) = [a] := rfl
@[simp] theorem ids0_mp (a : Nat) : V.ids0 (.mp a) = [a] := rfl
@[simp] theorem ids1_d (x : D) : V.ids1 (.d x) = [] := rfl
@[simp] theorem ids1_nilS  : V.ids1 (.nilS) = [] := rfl
@[simp] theorem ids1_ro (cs : List D) : V.ids1 (.ro cs) = [] := rfl
@[simp] theorem ids1_dead  : V.ids1 (.dead) = [] := rfl
@[simp] theorem ids1_arr (a b : Nat) : V.ids1 (.arr a b) = [a] := rfl
@[simp] theorem ids1_ptr (a b : Nat) : V.ids1 (.ptr a b) = [a] := rfl
@[simp] theorem ids1_eptr (a b c d : Nat) : V.ids1 (.eptr a b c d) = [a] := rfl
@[simp] theorem ids1_mp (a : Nat) : V.ids1 (.mp a) = [a] := rfl
@[simp] theorem ids1_clo (g : FuncId) (l : List V) : V.ids1 (.clo g l) = l.flatMap V.ids0 := rfl
@[simp] theorem ids2_d (x : D) : V.ids2 (.d x) = [] := rfl
@[simp] theorem ids2_nilS  : V.ids2 (.nilS) = [] := rfl
@[simp] theorem ids2_ro (cs : List D) : V.ids2 (.ro cs) = [] := rfl
@[simp] theorem ids2_dead  : V.ids2 (.dead) = [] := rfl
@[simp] theorem ids2_arr (a b : Nat) : V.ids2 (.arr a b) = [a] := rfl
@[simp] theorem ids2_ptr (a b : Nat) : V.ids2 (.ptr a b) = [a] := rfl
@[simp] theorem ids2_eptr (a b c d : Nat) : V.ids2 (.eptr a b c d) = [a] := rfl
@[simp] theorem ids2_mp (a : Nat) : V.ids2 (.mp a) = [a] := rfl
@[simp] theorem ids2_clo (g : FuncId) (l : List V) : V.ids2 (.clo g l) = l.flatMap V.ids0 := rfl
@[simp] theorem ids2_agg (l : List V) : V.ids2 (.agg l) = l.flatMap V.ids1 := rfl
@[simp] theorem ids_d (x : D) : V.ids (.d x) = [] := rfl
@[simp] theorem ids_nilS  : V.ids (.nilS) = [] := rfl
@[simp] theorem ids_ro (cs : List D) : V.ids (.ro cs) = [] := rfl
@[simp] theorem ids_dead  : V.ids (.dead) = [] := rfl
@[simp] theorem ids_arr (a b : Nat) : V.ids (.arr a b) = [a] := rfl
@[simp] theorem ids_ptr (a b : Nat) : V.ids (.ptr a b) = [a] := rfl
@[simp] theorem ids_eptr (a b c d : Nat) : V.ids (.eptr a b c d) = [a] := rfl
@[simp] theorem ids_mp (a : Nat) : V.ids (.mp a) = [a] := rfl
@[simp] theorem ids_clo (g : FuncId) (l : List V) : V.ids (.clo g l) = l.flatMap V.ids0 := rfl
@[simp] theorem ids_agg (l : List V) : V.ids (.agg l) = l.flatMap V.ids1 := rfl
@[simp] theorem ids_tup (l : List V) : V.ids (.tup l) = l.flatMap V.ids2 := rfl
@[simp] theorem objren_box (f : Nat → Option Nat) (cs : List V) : Obj.ren f (.box cs) = (cs.mapM (V.ren1 f)).map .box := rfl
@[simp] theorem objren_arr (f : Nat → Option Nat) (sz : Nat) (xs : List D) (wm : Nat) : Obj.ren f (.arr sz xs wm) = some (.arr sz xs wm) := rfl
@[simp] theorem objren_siter (f : Nat → Option Nat) (s : ByteArray) (n : Nat) : Obj.ren f (.siter s n) = some (.siter s n) := rfl
@[simp] theorem objids_box (cs : List V) : Obj.ids (.box cs) = cs.flatMap V.ids1 := rfl
@[simp] theorem objids_arr (sz : Nat) (xs : List D) (wm : Nat) : Obj.ids (.arr sz xs wm) = [] := rfl
@[simp] theorem objids_siter (s : ByteArray) (n : Nat) : Obj.ids (.siter s n) = [] := rfl
@[simp] theorem place_nil (i : Nat) : place [] i = none := rfl
@[simp] theorem place_cons (x : Nat) (xs : List Nat) (i : Nat) : place (x :: xs) i = bif x == i then some 0 else (place xs i).map (· + 1) := by simp only [place, cond_eq_ite, beq_iff_eq]
@[simp] theorem dc_agg (l : List D) : (D.agg l).cells = l := rfl
@[simp] theorem dc_int (k : IntKind) (n : Int) : (D.int k n).cells = [.int k n] := rfl
@[simp] theorem dc_bool (b : Bool) : (D.bool b).cells = [.bool b] := rfl
@[simp] theorem dc_str (s : ByteArray) : (D.str s).cells = [.str s] := rfl
@[simp] theorem dc_list (l : List D) : (D.list l).cells = [.list l] := rfl
@[simp] theorem dc_nilI : D.nilI.cells = [.nilI] := rfl
@[simp] theorem dc_nilP : D.nilP.cells = [.nilP] := rfl
@[simp] theorem dc_nilM : D.nilM.cells = [.nilM] := rfl
@[simp] theorem dc_nilF : D.nilF.cells = [.nilF] := rfl
@[simp] theorem dc_iface (t : TypeId) (x : D) : (D.iface t x).cells = [.iface t x] := rfl
@[simp] theorem dc_fn (f : FuncId) : (D.fn f).cells = [.fn f] := rfl
@[simp] theorem vc_agg (l : List V) : (V.agg l).cells = l := rfl
@[simp] theorem vc_dagg (l : List D) : (V.d (.agg l)).cells = l.map .d := rfl
@[simp] theorem vc_int (k : IntKind) (n : Int) : (V.d (.int k n)).cells = [.d (.int k n)] := rfl
@[simp] theorem vc_bool (b : Bool) : (V.d (.bool b)).cells = [.d (.bool b)] := rfl
@[simp] theorem vc_str (s : ByteArray) : (V.d (.str s)).cells = [.d (.str s)] := rfl
@[simp] theorem vc_list (l : List D) : (V.d (.list l)).cells = [.d (.list l)] := rfl
@[simp] theorem vc_nilI : (V.d .nilI).cells = [.d .nilI] := rfl
@[simp] theorem vc_nilM : (V.d .nilM).cells = [.d .nilM] := rfl
@[simp] theorem vc_nilP : (V.d .nilP).cells = [.d .nilP] := rfl
@[simp] theorem vc_nilF : (V.d .nilF).cells = [.d .nilF] := rfl
@[simp] theorem vc_iface (t : TypeId) (x : D) : (V.d (.iface t x)).cells = [.d (.iface t x)] := rfl
@[simp] theorem vc_fn (f : FuncId) : (V.d (.fn f)).cells = [.d (.fn f)] := rfl
@[simp] theorem vc_nilS : V.nilS.cells = [.nilS] := rfl
@[simp] theorem vc_arr (a b : Nat) : (V.arr a b).cells = [.arr a b] := rfl
@[simp] theorem vc_ptr (a b : Nat) : (V.ptr a b).cells = [.ptr a b] := rfl
@[simp] theorem vc_eptr (a b c d : Nat) : (V.eptr a b c d).cells = [.eptr a b c d] := rfl
@[simp] theorem vc_clo (f : FuncId) (l : List V) : (V.clo f l).cells = [.clo f l] := rfl

/-- x, if p: p is for the discharger. -/
def guardO {α : Type} (p : Prop) [Decidable p] (x : Option α) : Option α := if p then x else none
@[simp] theorem guardO_true {α : Type} (x : Option α) : guardO True x = x := rfl
@[simp] theorem guardO_false {α : Type} (x : Option α) : guardO False x = none := rfl
@[simp] theorem guardO_pos {α : Type} {p : Prop} [Decidable p] (x : Option α) (h : p) : guardO p x = x := if_pos h
@[congr] theorem guardO_congr {α : Type} {p q : Prop} [Decidable p] [Decidable q] {x : Option α} (h : p = q) : guardO p x = guardO q x := by cases h; unfold guardO; congr
@[simp] theorem ite_guard {α : Type} (p : Prop) [Decidable p] (x : Option α) : (if p then x else none) = guardO p x := rfl
theorem ite_guard_and {α : Type} (p q : Prop) [Decidable p] [Decidable q] (x : Option α) : (if p ∧ q then x else none) = guardO p (guardO q x) := by
  unfold guardO
  by_cases hp : p <;> by_cases hq : q <;> simp [hp, hq]
@[simp] theorem guard_and {α : Type} (p q : Prop) [Decidable p] [Decidable q] (x : Option α) : guardO (p ∧ q) x = guardO p (guardO q x) := ite_guard_and p q x
@[simp] theorem ite_guard_not {α : Type} (p : Prop) [Decidable p] (x : Option α) : (if p then none else x) = guardO (¬ p) x := by
  unfold guardO
  by_cases hp : p <;> simp [hp]

/-- A token of something: what it is of, simp does not look into. -/
structure Tok {α : Type} (a : α) : Type where

section
variable {P : Program} {G : Nat → Option (List D)} {K : Keeps} {S : Hints} {run : Run} {F k b : Nat} {α β : Type}

def seqT (x : Res) (f : Slots → List Obj → Res) (_ : Tok f) : Res := onNormal x f
def bindT (x : Option α) (f : α → Option β) (_ : Tok f) : Option β := obind x f
def condT (v : V) (f : Bool → Option α) (_ : Tok f) : Option α :=
  match v with
  | .d (.bool z) => f z
  | _ => none
noncomputable def codeT (P : Program) (G : Nat → Option (List D)) (K : Keeps) (S : Hints) (run : Run) (F k b : Nat) (c : Code) (_ : Tok c) (s : Slots) (h : List Obj) : Res := codeV P G K S run loops F k b c s h
def opsT (P : Program) (G : Nat → Option (List D)) (run : Run) (all : List Oper) (hint : List Nat) (hv : List Obj) (i : Nat) (rest : List Oper) (_ : Tok (all, rest)) (s : Slots) (h : List Obj) : Option (Slots × List Obj) := opsV P G run all hint hv i rest s h
def opT (P : Program) (G : Nat → Option (List D)) (run : Run) (hint : List Nat) (hv : List Obj) (i : Nat) (o : Oper) (_ : Tok o) (s : Slots) (h : List Obj) : Option (V × List Obj) := execI P G run hint hv i s h o
noncomputable def loopT (keep : Option (List (Nat × Nat))) (k : Nat) (f : Slots → List Obj → Res) (_ : Tok f) (s : Slots) (h : List Obj) : Res :=
  match keep with
  | some l => hloop k l f s h
  | none => loops f s h

@[simp] theorem seqT_normal (s : Slots) (h : List Obj) (f : Slots → List Obj → Res) (t : Tok f) : seqT (some (.normal, s, h)) f t = f s h := rfl
@[simp] theorem seqT_exit (i : Nat) (s : Slots) (h : List Obj) (f : Slots → List Obj → Res) (t : Tok f) : seqT (some (.exit i, s, h)) f t = some (.exit i, s, h) := rfl
@[simp] theorem seqT_ret (s : Slots) (h : List Obj) (f : Slots → List Obj → Res) (t : Tok f) : seqT (some (.ret, s, h)) f t = some (.ret, s, h) := rfl
@[simp] theorem bindT_some (a : α) (f : α → Option β) (t : Tok f) : bindT (some a) f t = f a := rfl
@[simp] theorem bindT_none (f : α → Option β) (t : Tok f) : bindT none f t = none := rfl
@[simp] theorem seqT_none (f : Slots → List Obj → Res) (t : Tok f) : seqT none f t = none := rfl
@[simp] theorem condT_true (f : Bool → Option α) (t : Tok f) : condT (.d (.bool true)) f t = f true := rfl
@[simp] theorem condT_false (f : Bool → Option α) (t : Tok f) : condT (.d (.bool false)) f t = f false := rfl
@[simp] theorem condT_not (c : Bool) (f : Bool → Option α) (t : Tok f) : condT (.d (.bool !c)) f t = condT (.d (.bool c)) (fun z => match z with | true => f false | false => f true) ⟨⟩ := by cases c <;> rfl
@[simp] theorem seqT_cond (v : V) (f : Bool → Res) (t : Tok f) (g : Slots → List Obj → Res) (u : Tok g) : seqT (condT v f t) g u = condT v (fun z => seqT (f z) g ⟨⟩) ⟨⟩ := by
  cases v with
  | d x => cases x <;> rfl
  | _ => rfl
@[simp] theorem bindT_cond (v : V) (f : Bool → Option α) (t : Tok f) (g : α → Option β) (u : Tok g) : bindT (condT v f t) g u = condT v (fun z => bindT (f z) g ⟨⟩) ⟨⟩ := by
  cases v with
  | d x => cases x <;> rfl
  | _ => rfl
@[simp] theorem leave_cond (id : Nat) (v : V) (f : Bool → Res) (t : Tok f) : leave id (condT v f t) = condT v (fun z => leave id (f z)) ⟨⟩ := by
  cases v with
  | d x => cases x <;> rfl
  | _ => rfl
/-- A test that is not decided: both ways. -/
theorem cond_any {T : Option α → Prop} {c : Bool} {f : Bool → Option α} {t : Tok f} (h1 : c = true → T (f true)) (h0 : c = false → T (f false)) : T (condT (.d (.bool c)) f t) := by
  cases c
  · exact h0 rfl
  · exact h1 rfl

/-- x, looked at first. -/
def bind1 (x : α) (f : α → β) (_ : Tok f) : β := f x
@[simp] theorem bind1_eq (x : α) (f : α → β) (t : Tok f) : bind1 x f t = f x := rfl
@[simp] theorem sget_nil (t : Nat) : sget [] t = .dead := rfl
@[simp] theorem sget_cons (i : Nat) (v : V) (r : Slots) (t : Nat) : sget ((i, v) :: r) t = bif i == t then v else sget r t := by
  simp only [sget, cond_eq_ite, beq_iff_eq]
/-- A kept slot. -/
def keepStep (v : V) (sz t : Nat) (s : Slots) (h : List Obj) (r : List (Nat × Nat)) : Slots × List Obj :=
  match v, sz with
  | .nilS, sz + 1 => let (s1, h1) := keepSlots s (h ++ [.arr (sz + 1) [] 0]) r; ((t, .arr h.length 0) :: s1, h1)
  | v, _ => let (s1, h1) := keepSlots s h r; ((t, v) :: s1, h1)
@[simp] theorem keepSlots_nil (s : Slots) (h : List Obj) : keepSlots s h [] = ([], h) := rfl
@[simp] theorem keepSlots_cons (s : Slots) (h : List Obj) (t sz : Nat) (r : List (Nat × Nat)) : keepSlots s h ((t, sz) :: r) = keepStep (sget s t) sz t s h r := rfl
@[simp] theorem keepStep_zero (v : V) (t : Nat) (s : Slots) (h : List Obj) (r : List (Nat × Nat)) : keepStep v 0 t s h r = bind1 (keepSlots s h r) (fun p => ((t, v) :: p.1, p.2)) ⟨⟩ := by
  cases v <;> rfl
@[simp] theorem keepStep_nilS (sz t : Nat) (s : Slots) (h : List Obj) (r : List (Nat × Nat)) : keepStep .nilS (sz + 1) t s h r = bind1 (keepSlots s (h ++ [.arr (sz + 1) [] 0]) r) (fun p => ((t, .arr h.length 0) :: p.1, p.2)) ⟨⟩ := rfl
@[simp] theorem keepStep_arr (a b sz t : Nat) (s : Slots) (h : List Obj) (r : List (Nat × Nat)) : keepStep (.arr a b) (sz + 1) t s h r = bind1 (keepSlots s h r) (fun p => ((t, .arr a b) :: p.1, p.2)) ⟨⟩ := rfl
@[simp] theorem keepStep_d (x : D) (sz t : Nat) (s : Slots) (h : List Obj) (r : List (Nat × Nat)) : keepStep (.d x) (sz + 1) t s h r = bind1 (keepSlots s h r) (fun p => ((t, .d x) :: p.1, p.2)) ⟨⟩ := rfl
@[simp] theorem renSlots_nil (f : Nat → Option Nat) : renSlots f [] = some [] := rfl
@[simp] theorem renSlots_cons (f : Nat → Option Nat) (t : Nat) (v : V) (r : Slots) : renSlots f ((t, v) :: r) = bindT (V.ren f v) (fun u => bindT (renSlots f r) (fun l => some ((t, u) :: l)) ⟨⟩) ⟨⟩ := by
  simp only [renSlots, List.mapM_cons, bindT]
  cases V.ren f v with
  | none => rfl
  | some u => cases List.mapM (fun (p : Nat × V) => Option.map (fun v => (p.1, v)) (V.ren f p.2)) r <;> rfl
def takeObj (h : List Obj) (f : Nat → Option Nat) (i : Nat) : Option Obj := (h[i]?).bind (Obj.ren f)
@[simp] theorem takeObj_zero (o : Obj) (h : List Obj) (f : Nat → Option Nat) : takeObj (o :: h) f 0 = Obj.ren f o := rfl
@[simp] theorem takeObj_succ (o : Obj) (h : List Obj) (f : Nat → Option Nat) (i : Nat) : takeObj (o :: h) f (i + 1) = takeObj h f i := rfl
@[simp] theorem takeObjs_nil (h : List Obj) (f : Nat → Option Nat) : takeObjs h f [] = some [] := rfl
@[simp] theorem takeObjs_cons (h : List Obj) (f : Nat → Option Nat) (i : Nat) (l : List Nat) : takeObjs h f (i :: l) = bindT (takeObj h f i) (fun o => bindT (takeObjs h f l) (fun os => some (o :: os)) ⟨⟩) ⟨⟩ := by
  simp only [takeObjs, List.mapM_cons, bindT, takeObj]
  cases (h[i]?).bind (Obj.ren f) with
  | none => rfl
  | some u => cases List.mapM (fun i => (h[i]?).bind (Obj.ren f)) l <;> rfl
@[simp] theorem norm_eq (k : Nat) (keep : List (Nat × Nat)) (s : Slots) (h : List Obj) : norm k keep s h =
    bind1 (keepSlots s h keep) (fun p => bind1 (reach p.2 (addIds (List.range k) (p.1.flatMap fun q => q.2.ids))) (fun ids => bindT (renSlots (place ids) p.1) (fun s2 => bindT (takeObjs p.2 (place ids) ids) (fun h2 => some (s2, h2)) ⟨⟩) ⟨⟩) ⟨⟩) ⟨⟩ := by
  simp only [norm, bind1, bindT, obind]
  cases renSlots (place (reach (keepSlots s h keep).2 (addIds (List.range k) ((keepSlots s h keep).1.flatMap fun q => q.2.ids)))) (keepSlots s h keep).1 with
  | none => rfl
  | some s2 => cases takeObjs (keepSlots s h keep).2 (place (reach (keepSlots s h keep).2 (addIds (List.range k) ((keepSlots s h keep).1.flatMap fun q => q.2.ids)))) (reach (keepSlots s h keep).2 (addIds (List.range k) ((keepSlots s h keep).1.flatMap fun q => q.2.ids))) <;> rfl
@[simp] theorem callWith_eq (f : FuncId) (args : List V) (h : List Obj) : callWith run f args h =
    bindT (argVs h args) (fun p => bind1 (reach p.2 (addIds [] (p.1.flatMap V.ids))) (fun ids => bindT (p.1.mapM (V.ren (place ids))) (fun as2 => bindT (takeObjs p.2 (place ids) ids) (fun hin =>
      bindT (run f as2 hin) (fun q => bindT (q.1.mapM (V.ren (back ids p.2.length))) (fun rets2 => bindT (q.2.mapM (Obj.ren (back ids p.2.length))) (fun hout2 => some (one rets2, setAll p.2 ids hout2 ++ hout2.drop ids.length)) ⟨⟩) ⟨⟩) ⟨⟩) ⟨⟩) ⟨⟩) ⟨⟩) ⟨⟩ := by
  simp only [callWith, bind1, bindT]
  cases argVs h args with
  | none => rfl
  | some p =>
    obtain ⟨as, h1⟩ := p
    simp only [obind]
    cases as.mapM (V.ren (place (reach h1 (addIds [] (as.flatMap V.ids))))) with
    | none => rfl
    | some as2 =>
      simp only
      cases takeObjs h1 (place (reach h1 (addIds [] (as.flatMap V.ids)))) (reach h1 (addIds [] (as.flatMap V.ids))) with
      | none => rfl
      | some hin =>
        simp only
        cases run f as2 hin with
        | none => rfl
        | some q =>
          obtain ⟨rets, hout⟩ := q
          simp only
          cases rets.mapM (V.ren (back (reach h1 (addIds [] (as.flatMap V.ids))) h1.length)) with
          | none => rfl
          | some r2 => cases hout.mapM (Obj.ren (back (reach h1 (addIds [] (as.flatMap V.ids))) h1.length)) <;> rfl
@[simp] theorem finish_eq (k : Nat) (ts : List TypeId) (vs : List V) (h : List Obj) : finish P k ts vs h =
    bind1 (solid P h vs ts) (fun p => bind1 (reach p.2 (addIds (List.range k) (p.1.flatMap V.ids))) (fun ids => bindT (p.1.mapM (V.ren2 (place ids))) (fun ws => bindT (takeObjs p.2 (place ids) ids) (fun h2 => some (ws, h2)) ⟨⟩) ⟨⟩) ⟨⟩) ⟨⟩ := by
  simp only [finish, bind1, bindT, obind]
  generalize solid P h vs ts = p
  cases p.1.mapM (V.ren2 (place (reach p.2 (addIds (List.range k) (p.1.flatMap V.ids))))) with
  | none => rfl
  | some s2 => cases takeObjs p.2 (place (reach p.2 (addIds (List.range k) (p.1.flatMap V.ids)))) (reach p.2 (addIds (List.range k) (p.1.flatMap V.ids))) <;> rfl

@[simp ↓] theorem codeT_skip {t} {s : Slots} {h : List Obj} : codeT P G K S run F k b .skip t s h = some (.normal, s, h) := rfl
@[simp ↓] theorem codeT_seq {x y : Code} {t} {s : Slots} {h : List Obj} : codeT P G K S run F k b (.seq x y) t s h = seqT (codeT P G K S run F k b x ⟨⟩ s h) (fun s1 h1 => codeT P G K S run F k b y ⟨⟩ s1 h1) ⟨⟩ := rfl
@[simp ↓] theorem codeT_cond {c : Operand} {x y : Code} {t} {s : Slots} {h : List Obj} :
    codeT P G K S run F k b (.cond c x y) t s h = condT (ev G s c) (fun z => match z with | true => codeT P G K S run F k b x ⟨⟩ s h | false => codeT P G K S run F k b y ⟨⟩ s h) ⟨⟩ := by
  show branch (ev G s c) _ _ = _
  cases ev G s c with
  | d z =>
    cases z with
    | bool z => cases z <;> rfl
    | _ => rfl
  | _ => rfl
@[simp ↓] theorem codeT_block {id : Nat} {c : Code} {t} {s : Slots} {h : List Obj} : codeT P G K S run F k b (.block id c) t s h = leave id (codeT P G K S run F k id c ⟨⟩ s h) := rfl
@[simp ↓] theorem codeT_exit {id : Nat} {t} {s : Slots} {h : List Obj} : codeT P G K S run F k b (.exit id) t s h = some (.exit id, s, h) := rfl
@[simp ↓] theorem codeT_ret {t} {s : Slots} {h : List Obj} : codeT P G K S run F k b .ret t s h = some (.ret, s, h) := rfl
@[simp ↓] theorem codeT_loop {c : Code} {t} {s : Slots} {h : List Obj} : codeT P G K S run F k b (.loop c) t s h = loopT (K F b) k (fun s h => codeT P G K S run F k b c ⟨⟩ s h) ⟨⟩ s h := by
  unfold loopT codeT
  cases e : K F b with
  | some keep => rw [codeV_loop e]
  | none => simp only [codeV, e]
@[simp ↓] theorem codeT_region {id : Nat} {ops : List Oper} {draw : Bool} {t} {s : Slots} {h : List Obj} :
    codeT P G K S run F k b (.region id ops.toArray draw) t s h = bindT (some (bif hasSlice ops && !hasStore ops then freezeAll h s else h)) (fun h => bindT (opsT P G run ops (bif draw then S F id else []) (view h) 0 ops ⟨⟩ s h) (fun p => some (.normal, p.1, p.2)) ⟨⟩) ⟨⟩ := by
  unfold codeT
  simp only [codeV, regionV, bindT, opsT, cond_eq_ite]

@[simp ↓] theorem opsT_nil {all : List Oper} {hint : List Nat} {hv : List Obj} {i : Nat} {t} {s : Slots} {h : List Obj} : opsT P G run all hint hv i [] t s h = some (s, h) := rfl
theorem opsT_cons {all : List Oper} {hint : List Nat} {hv : List Obj} {i : Nat} {o : Oper} {rest : List Oper} {t} {s : Slots} {h : List Obj} :
    opsT P G run all hint hv i (o :: rest) t s h = bindT (wantedV all s o.guard) (fun w => match w with
      | true => bindT (opT P G run hint hv i o ⟨⟩ s h) (fun p => opsT P G run all hint hv (i + 1) rest ⟨⟩ (putV s o.dst p.1) p.2) ⟨⟩
      | false => opsT P G run all hint hv (i + 1) rest ⟨⟩ (putV s o.dst (.tup [])) h) ⟨⟩ := by
  unfold opsT opT bindT
  simp only [opsV, execI]
  congr 1
  funext w
  cases w <;> rfl
@[simp ↓] theorem opsT_plain {all : List Oper} {hint : List Nat} {hv : List Obj} {i : Nat} {dst : Option Tmp} {op : Op} {ty : TypeId} {pos : String} {after : Array Edge} {rest : List Oper} {t} {s : Slots} {h : List Obj} :
    opsT P G run all hint hv i (⟨dst, op, ty, pos, after, none⟩ :: rest) t s h = bindT (opT P G run hint hv i ⟨dst, op, ty, pos, after, none⟩ ⟨⟩ s h) (fun p => opsT P G run all hint hv (i + 1) rest ⟨⟩ (putV s dst p.1) p.2) ⟨⟩ := by
  rw [opsT_cons]; rfl
/-- What a guard's slot says. -/
def guardT (v : V) (want : Bool) (f : Bool → Option α) (_ : Tok f) : Option α :=
  match v with
  | .d (.bool c) => f (c == want)
  | .tup [] => f false
  | _ => none
@[simp] theorem guardT_true (c : Bool) (f : Bool → Option α) (t : Tok f) : guardT (.d (.bool c)) true f t = condT (.d (.bool c)) f t := by cases c <;> rfl
@[simp] theorem guardT_false (c : Bool) (f : Bool → Option α) (t : Tok f) : guardT (.d (.bool c)) false f t = condT (.d (.bool c)) (fun z => match z with | true => f false | false => f true) ⟨⟩ := by cases c <;> rfl
@[simp] theorem guardT_tup (want : Bool) (f : Bool → Option α) (t : Tok f) : guardT (.tup []) want f t = f false := rfl
def guardDst (all : List Oper) (j : Nat) (_ : Tok all) : Option Tmp := (all[j]?).bind (·.dst)
@[simp ↓] theorem guardDst_zero {o : Oper} {all : List Oper} {t} : guardDst (o :: all) 0 t = o.dst := rfl
@[simp ↓] theorem guardDst_succ {o : Oper} {all : List Oper} {j : Nat} {t} : guardDst (o :: all) (j + 1) t = guardDst all j ⟨⟩ := rfl
def guardG (s : Slots) (d : Option Tmp) : V :=
  match d with
  | none => .tup []
  | some d => sget s d
@[simp] theorem guardG_some (s : Slots) (d : Nat) : guardG s (some d) = sget s d := rfl
@[simp] theorem guardG_none (s : Slots) : guardG s none = .tup [] := rfl
@[simp ↓] theorem opsT_guard {all : List Oper} {hint : List Nat} {hv : List Obj} {i : Nat} {dst : Option Tmp} {op : Op} {ty : TypeId} {pos : String} {after : Array Edge} {j : Nat} {want : Bool} {rest : List Oper} {t} {s : Slots} {h : List Obj} :
    opsT P G run all hint hv i (⟨dst, op, ty, pos, after, some (j, want)⟩ :: rest) t s h = guardT (guardG s (guardDst all j ⟨⟩)) want (fun w => match w with
      | true => bindT (opT P G run hint hv i ⟨dst, op, ty, pos, after, none⟩ ⟨⟩ s h) (fun p => opsT P G run all hint hv (i + 1) rest ⟨⟩ (putV s dst p.1) p.2) ⟨⟩
      | false => opsT P G run all hint hv (i + 1) rest ⟨⟩ (putV s dst (.tup [])) h) ⟨⟩ := by
  rw [opsT_cons]
  unfold guardG guardDst
  simp only [wantedV]
  have hop : ∀ (o : Oper) (o' : Oper), o.op = o'.op → opT P G run hint hv i o ⟨⟩ s h = opT P G run hint hv i o' ⟨⟩ s h := fun o o' e => by
    unfold opT execI opV blindV mild
    rw [e]
  rw [hop ⟨dst, op, ty, pos, after, some (j, want)⟩ ⟨dst, op, ty, pos, after, none⟩ rfl]
  cases (all[j]?).bind (·.dst) with
  | none => rfl
  | some d =>
    simp only
    cases sget s d with
    | d x =>
      cases x with
      | bool c => cases c <;> cases want <;> rfl
      | _ => rfl
    | tup l => cases l <;> rfl
    | _ => rfl
@[simp ↓] theorem opT_eq {hv : List Obj} {i : Nat} {dst : Option Tmp} {op : Op} {ty : TypeId} {pos : String} {after : Array Edge} {t} {s : Slots} {h : List Obj} :
    opT P G run [] hv i ⟨dst, op, ty, pos, after, none⟩ t s h = opV P G run s h ⟨dst, op, ty, pos, after, none⟩ := rfl
@[simp ↓] theorem opT_hint {x : Nat} {l : List Nat} {hv : List Obj} {i : Nat} {dst : Option Tmp} {op : Op} {ty : TypeId} {pos : String} {after : Array Edge} {t} {s : Slots} {h : List Obj} :
    opT P G run (x :: l) hv i ⟨dst, op, ty, pos, after, none⟩ t s h = bif (x :: l).contains i then withH h (blindV P G hv s ⟨dst, op, ty, pos, after, none⟩) else bif mild G s ⟨dst, op, ty, pos, after, none⟩ then opV P G run s h ⟨dst, op, ty, pos, after, none⟩ else none := by
  unfold opT execI
  simp only [cond_eq_ite, List.isEmpty_cons, Bool.false_or]
attribute [simp ↓] opV
attribute [simp] view mild argPure blindV
@[simp ↓] theorem hasSlice_nil : hasSlice [] = false := rfl
@[simp ↓] theorem hasStore_nil : hasStore [] = false := rfl
@[simp ↓] theorem hasSlice_cons {o : Oper} {l : List Oper} : hasSlice (o :: l) = ((match o.op with | .slice .. => true | _ => false) || hasSlice l) := rfl
@[simp ↓] theorem hasStore_cons {o : Oper} {l : List Oper} : hasStore (o :: l) = ((match o.op with | .store .. => true | _ => false) || hasStore l) := rfl
end

/-- The cells of an element that is appended. -/
def appElem? (P : Program) (e : TypeId) : Option Nat :=
  match P.info? e with
  | some i => if i.zero.map (·.cells.size) = some i.size ∧ 0 < i.size ∧ i.bytes ≤ 65536 then some i.size else none
  | none => none

@[simp] theorem appendV_eq (P : Program) (h : List Obj) (ts tx : TypeId) (s x : V) : appendV P h ts tx s x =
    (match P.underlying ts with
    | some (.slice e) =>
      match appElem? P e, source? P h tx x with
      | some n, some ys =>
        match s with
        | .nilS => guardO (ys.length < 2147483648) (guardO (allSize n ys = true) (some (.arr h.length ys.length, h ++ [.arr n ys 0])))
        | .arr id m =>
          match h[id]? with
          | some (.arr sz xs wm) => guardO (m = xs.length) (guardO (sz = n) (guardO (m + ys.length < 2147483648) (guardO (allSize n ys = true) (some (.arr id (m + ys.length), h.set id (.arr sz (xs ++ ys) wm))))))
          | _ => none
        | _ => none
      | _, _ => none
    | _ => none) := by
  unfold appendV appElem?
  cases P.underlying ts with
  | none => rfl
  | some d =>
    cases d <;> try rfl
    rename_i e
    simp only
    cases P.info? e with
    | none => rfl
    | some i =>
      cases source? P h tx x with
      | none =>
        simp only
        split <;> simp_all
      | some ys =>
        simp only
        split
        · simp only [ite_guard, guard_and]; rfl
        · rfl

/-- The cells of a struct's zero value; where its fields stand. -/
def zeroVs? (P : Program) (t : TypeId) : Option (List V) :=
  match zero? P t with
  | some z => if (z.cells.toList.map constCell).all V.cellOk then some (z.cells.toList.map constCell) else none
  | none => none
def places? (P : Program) (t : TypeId) : Option (List (Nat × Nat)) :=
  match P.underlying t with
  | some (.struct fs) => fs.toList.mapM fun f => (sizeOf? P f.type).map fun s => (f.offset, s)
  | _ => none
theorem places_get {P : Program} : ∀ {fs : List Field} {pl : List (Nat × Nat)}, (fs.mapM fun (f : Field) => (sizeOf? P f.type).map fun s => (f.offset, s)) = some pl → ∀ i : Nat, (fs[i]?).bind (fun (f : Field) => (sizeOf? P f.type).map fun s => (f.offset, s)) = pl[i]?
  | [], pl, h, i => by simp at h; subst h; simp
  | f :: fs, pl, h, i => by
    simp only [List.mapM_cons, Option.bind_eq_bind, Option.bind_eq_some_iff, Option.pure_def, Option.some.injEq] at h
    obtain ⟨p, hp, ps, hps, rfl⟩ := h
    cases i with
    | zero => simpa using hp
    | succ i => simpa using places_get hps i
theorem buildV_struct {P : Program} {t : TypeId} {parts : List (Nat × V)} {z : List V} {pl : List (Nat × Nat)} (hz : zeroVs? P t = some z) (hp : places? P t = some pl) : buildV P t parts = (fillV (fun i => pl[i]?) z parts).map mkAgg := by
  unfold zeroVs? at hz
  unfold places? at hp
  unfold buildV
  cases h0 : zero? P t with
  | none => rw [h0] at hz; cases hz
  | some z0 =>
    rw [h0] at hz
    simp only at hz
    split at hz
    · rename_i hc
      simp only [Option.some.injEq] at hz
      subst hz
      split at hp
      · rename_i fs hfs
        have hall : fs.toList.all (fun f => (sizeOf? P f.type).isSome) = true := by
          rw [List.all_eq_true]
          intro f hf
          obtain ⟨i, hi⟩ := List.getElem?_of_mem hf
          obtain ⟨_, h2⟩ := mapM_get' hp
          obtain ⟨b, _, hb⟩ := h2 i f hi
          simp only [Option.map_eq_some_iff] at hb
          obtain ⟨s, hs, _⟩ := hb
          rw [hs]; rfl
        simp only [hfs, hc, hall, Bool.and_self, if_true]
        have hpl : (fun (i : Nat) => (fs[i]?).bind fun (f : Field) => (sizeOf? P f.type).map fun s => (f.offset, s)) = fun i => pl[i]? := by
          funext i
          rw [← places_get hp i, Array.getElem?_toList]
        rw [hpl]
      · cases hp
    · cases hz
theorem allocV_of {P : Program} {t : TypeId} {h : List Obj} {z : List V} (hz : zeroVs? P t = some z) : allocV P h t = some (.ptr h.length 0, h ++ [.box z]) := by
  unfold zeroVs? at hz
  unfold allocV
  cases h0 : zero? P t with
  | none => rw [h0] at hz; cases hz
  | some z0 =>
    rw [h0] at hz
    simp only at hz ⊢
    split at hz
    · rename_i hc
      simp only [Option.some.injEq] at hz
      subst hz
      rw [if_pos hc]
    · cases hz
@[simp] theorem buildSliceV_eq (P : Program) (h : List Obj) (t : TypeId) (len : Nat) (parts : List (Nat × V)) : buildSliceV P h t len parts =
    (match P.underlying t with
    | some (.slice e) =>
      match sizeOf? P e with
      | some sz =>
        if (zero? P e).isSome = true ∧ 0 < sz ∧ parts.length = len ∧ len * sz ≤ 65536 ∧ inOrder parts 0 then
          match pureVs h (parts.map (·.2)) with
          | some (xs, h1) => if allSize sz xs then some (.arr h1.length len, h1 ++ [.arr sz xs 0]) else none
          | none => none
        else none
      | none => none
    | _ => none) := by
  unfold buildSliceV
  cases P.underlying t with
  | none => rfl
  | some d =>
    cases d <;> try rfl
    rename_i e
    simp only
    cases sizeOf? P e with
    | none => rfl
    | some sz =>
      cases zero? P e with
      | none => simp
      | some z => simp; rfl
attribute [simp] fillV putCells mkAgg V.asD? inOrder pureVs
@[simp] theorem allSize_map {α : Type} {f : α → D} {n : Nat} (l : List α) (hf : ∀ x, (f x).cells.length = n) : allSize n (l.map f) = true := by
  induction l with
  | nil => rfl
  | cons x l ih => simp [allSize, hf, ih]
attribute [simp] allSize source? elems?
@[simp] theorem int_bne (x y : Int) : (x != y) = !decide (x = y) := by
  by_cases h : x = y <;> simp [h]
@[simp] theorem int_beq (x y : Int) : (x == y) = decide (x = y) := by
  by_cases h : x = y <;> simp [h]
theorem wrap_i64 {x : Int} (h1 : -9223372036854775808 ≤ x) (h2 : x ≤ 9223372036854775807) : IntKind.i64.wrap x = x := by
  simp [IntKind.wrap, IntKind.signed, IntKind.bits]
  omega
theorem wrap_u64 {x : Int} (h1 : 0 ≤ x) (h2 : x ≤ 18446744073709551615) : IntKind.u64.wrap x = x := by
  simp [IntKind.wrap, IntKind.signed, IntKind.bits]
  omega
theorem wrap_u32 {x : Int} (h1 : 0 ≤ x) (h2 : x ≤ 4294967295) : IntKind.u32.wrap x = x := by
  simp [IntKind.wrap, IntKind.signed, IntKind.bits]
  omega
theorem wrap_u8 {x : Int} (h1 : 0 ≤ x) (h2 : x ≤ 255) : IntKind.u8.wrap x = x := by
  simp [IntKind.wrap, IntKind.signed, IntKind.bits]
  omega
/-- A counter, one on. -/
theorem wrap_next {i : Nat} (h : i < 4611686018427387904) : IntKind.i64.wrap ((i : Int) + 1) = (i : Int) + 1 := by
  rw [wrap_i64 (by omega) (by omega)]

@[simp] theorem obindOptionBind {α β : Type} (x : Option α) (f : α → Option β) : (x >>= f) = x.bind f := rfl

section
variable {P : Program} {G : Nat → Option (List D)} {K : Keeps} {S : Hints}

/-- The end of a call whose results are known by their text. -/
def endW (P : Program) (k : Nat) (rs : List ResultVar) (ts : List TypeId) (r : Res) : Option (List V × List Obj) :=
  match r with
  | some (.normal, s, h) | some (.ret, s, h) => obind (resV P s h rs) fun vs => finish P k ts vs h
  | _ => none
@[simp] theorem endW_normal {k : Nat} {rs : List ResultVar} {ts : List TypeId} {s : Slots} {h : List Obj} : endW P k rs ts (some (.normal, s, h)) = obind (resV P s h rs) fun vs => finish P k ts vs h := rfl
@[simp] theorem endW_cond {k : Nat} {rs : List ResultVar} {ts : List TypeId} (v : V) (f : Bool → Res) (t : Tok f) : endW P k rs ts (condT v f t) = condT v (fun z => endW P k rs ts (f z)) ⟨⟩ := by
  cases v with
  | d x => cases x <;> rfl
  | _ => rfl
@[simp] theorem endW_ret {k : Nat} {rs : List ResultVar} {ts : List TypeId} {s : Slots} {h : List Obj} : endW P k rs ts (some (.ret, s, h)) = obind (resV P s h rs) fun vs => finish P k ts vs h := rfl

/-- A call, carried out. -/
theorem run_text {f : FuncId} {fn : Func} {c : Code} {rs : List ResultVar} {ts : List TypeId} {args : List V} {h : List Obj} {r : List V × List Obj} (hf : P.funcs[f]? = some fn) (hb : fn.body = some c)
    (hrs : fn.results.toList = rs) (hts : fn.resultTypes.toList = ts) (hok : codeOk P (S f) fn.ntmps c = true) (hn : (fn.name == "runtime.NumGoroutine") = false)
    (hl : args.length ≤ fn.ntmps) (hr : endW P h.length rs ts (codeT P G K S (Runs P G K S) f h.length 0 c ⟨⟩ (startSlots 0 args) h) = some r) : Runs P G K S f args h = some r := by
  apply Runs_of
  unfold bodyV
  simp only [hf, hb, hok, hn, decide_eq_true hl, Bool.and_self, Bool.not_false, if_true]
  unfold endV
  rw [hrs, hts]
  exact hr

/-- The same, as a goal whose end is not looked into. -/
theorem run_goal {f : FuncId} {fn : Func} {c : Code} {rs : List ResultVar} {ts : List TypeId} {args : List V} {h : List Obj} {r : List V × List Obj} (hf : P.funcs[f]? = some fn) (hb : fn.body = some c)
    (hrs : fn.results.toList = rs) (hts : fn.resultTypes.toList = ts) (hok : codeOk P (S f) fn.ntmps c = true) (hn : (fn.name == "runtime.NumGoroutine") = false)
    (hl : args.length ≤ fn.ntmps) (hr : ∀ T : Option (List V × List Obj) → Prop, T (some r) → T (endW P h.length rs ts (codeT P G K S (Runs P G K S) f h.length 0 c ⟨⟩ (startSlots 0 args) h))) : Runs P G K S f args h = some r :=
  run_text hf hb hrs hts hok hn hl (hr (· = some r) rfl)
theorem of_eq {α : Type} {T : α → Prop} {a b : α} (h : T a) (e : b = a) : T b := e ▸ h

/-- A bool of which p holds. -/
def Tells (p : Bool → Prop) (r : Option (List V × List Obj)) : Prop := ∃ b, r = some ([.d (.bool b)], []) ∧ p b
@[simp] theorem tells_some {p : Bool → Prop} {b : Bool} : Tells p (some ([.d (.bool b)], [])) ↔ p b := by
  constructor
  · rintro ⟨b', h, hp⟩
    simp only [Option.some.injEq, Prod.mk.injEq, List.cons.injEq, V.d.injEq, D.bool.injEq, and_true] at h
    rw [h]; exact hp
  · exact fun h => ⟨b, rfl, h⟩

/-- A call, carried out, whatever is asked of what it comes to. -/
theorem run_any {f : FuncId} {fn : Func} {c : Code} {rs : List ResultVar} {ts : List TypeId} {args : List V} {h : List Obj} {p : Option (List V × List Obj) → Prop} (hf : P.funcs[f]? = some fn) (hb : fn.body = some c)
    (hrs : fn.results.toList = rs) (hts : fn.resultTypes.toList = ts) (hok : codeOk P (S f) fn.ntmps c = true) (hn : (fn.name == "runtime.NumGoroutine") = false)
    (hl : args.length ≤ fn.ntmps) (hp : ¬ p none) (hr : p (endW P h.length rs ts (codeT P G K S (Runs P G K S) f h.length 0 c ⟨⟩ (startSlots 0 args) h))) : p (Runs P G K S f args h) := by
  cases he : endW P h.length rs ts (codeT P G K S (Runs P G K S) f h.length 0 c ⟨⟩ (startSlots 0 args) h) with
  | none => rw [he] at hr; exact absurd hr hp
  | some r => rw [he] at hr; rw [run_text hf hb hrs hts hok hn hl he]; exact hr

theorem not_tells {p : Bool → Prop} : ¬ Tells p none := fun ⟨_, h, _⟩ => by cases h

theorem norm_of {k : Nat} {keep : List (Nat × Nat)} {s s' : Slots} {h h' : List Obj} {p : Slots × List Obj} (hp : norm k keep s h = some p) (he : p = (s', h')) : norm k keep s h = some (s', h') := by rw [hp, he]

/-- A loop, by what holds at its head: what is behind it is told of the next head. For a goal of which the loop was named: 'generalize hz : loopT _ _ _ _ _ _ = z; revert z'. -/
theorem loop_any {σ : Type} {T : Res → Prop} {k : Nat} {keep : List (Nat × Nat)} {b : Slots → List Obj → Res} {t : Tok b} {s : Slots} {h : List Obj} (Sl : σ → Slots) (H : σ → List Obj) (I : σ → Prop) (μ : σ → Nat) (x : σ)
    (hi : I x) (hn : norm k keep s h = some (Sl x, H x))
    (step : ∀ (T' : Res → Prop) (b' : Slots → List Obj → Res), T' = T → ∀ x, I x → (∀ y s h, I y → μ y < μ x → norm k keep s h = some (Sl y, H y) → T' (hloop k keep b' s h)) → T' (seqT (b (Sl x) (H x)) (hloop k keep b') ⟨⟩)) :
    ∀ z, loopT (some keep) k b t s h = z → T z := by
  rintro _ rfl
  show T (hloop k keep b s h)
  have key : ∀ n x, μ x ≤ n → ∀ s h, I x → norm k keep s h = some (Sl x, H x) → T (hloop k keep b s h) := by
    intro n
    induction n with
    | zero =>
      intro x hx s h hi hn
      rw [hloop_eq, hn]
      exact step T b rfl x hi fun y s h _ hlt _ => by omega
    | succ n ih =>
      intro x hx s h hi hn
      rw [hloop_eq, hn]
      exact step T b rfl x hi fun y s h hy hlt hn => ih y (by omega) s h hy hn
  exact key (μ x) x (Nat.le_refl _) s h hi hn
end
end Go.Am
