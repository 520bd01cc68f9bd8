/- How the abstract machine's words are opened by simp: the first part of a sequence first. -/
import Derived.Test.YtekemfffaedmhaaAm
set_option linter.all false
namespace Go.Am
@[simp] theorem obind_some {α β : Type} (a : α) (f : α → Option β) : obind (some a) f = f a := rfl
@[simp] theorem obind_none {α β : Type} (f : α → Option β) : obind none f = none := rfl
@[congr] theorem obind_congr {α β : Type} {x y : Option α} {f : α → Option β} (h : x = y) : obind x f = obind y f := by rw [h]
@[simp] theorem onNormal_normal (s : Slots) (h : List Obj) (f : Slots → List Obj → Res) : onNormal (some (.normal, s, h)) f = f s h := rfl
@[simp] theorem onNormal_exit (i : Nat) (s : Slots) (h : List Obj) (f : Slots → List Obj → Res) : onNormal (some (.exit i, s, h)) f = some (.exit i, s, h) := rfl
@[simp] theorem onNormal_ret (s : Slots) (h : List Obj) (f : Slots → List Obj → Res) : onNormal (some (.ret, s, h)) f = some (.ret, s, h) := rfl
@[simp] theorem onNormal_none (f : Slots → List Obj → Res) : onNormal none f = none := rfl
@[congr] theorem onNormal_congr {x y : Res} {f : Slots → List Obj → Res} (h : x = y) : onNormal x f = onNormal y f := by rw [h]
@[simp] theorem branch_bool (t : Bool) (x y : Res) : branch (.d (.bool t)) x y = if t then x else y := rfl
@[congr] theorem branch_congr {c d : V} {x y : Res} (h : c = d) : branch c x y = branch d x y := by rw [h]
@[simp] theorem leave_normal (id : Nat) (s : Slots) (h : List Obj) : leave id (some (.normal, s, h)) = some (.normal, s, h) := rfl
@[simp] theorem leave_ret (id : Nat) (s : Slots) (h : List Obj) : leave id (some (.ret, s, h)) = some (.ret, s, h) := rfl
@[simp] theorem leave_none (id : Nat) : leave id none = none := rfl
@[simp] theorem leave_exit (id i : Nat) (s : Slots) (h : List Obj) : leave id (some (.exit i, s, h)) = if i = id then some (.normal, s, h) else some (.exit i, s, h) := rfl
theorem cond_congr {α : Type} {c d : Prop} [Decidable c] [Decidable d] {x y : α} (h : c = d) : (if c then x else y) = (if d then x else y) := by cases h; congr
end Go.Am
