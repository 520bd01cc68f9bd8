/- What bytes of a list are read as: plain law. -/
import Derived.Test.YtlgdomajdebbdaaGreatDoorRefInts
set_option linter.all false
namespace Go.Am.Ab
open Go.Proofs
set_option maxHeartbeats 4000000
inductive PR (α : Type) where
 | err (e : Nat)
 | ok (a : α) (r : List UInt8)
def PR.map {α β : Type} (f : α → β) : PR α → PR β
 | .err e => .err e
 | .ok a r => .ok (f a) r
@[simp] theorem PR.map_err {α β : Type} (f : α → β) (e : Nat) : (PR.err e : PR α).map f = .err e := rfl
@[simp] theorem PR.map_ok {α β : Type} (f : α → β) (a : α) (r : List UInt8) : (PR.ok a r).map f = .ok (f a) r := rfl
theorem PR.map_map {α β γ : Type} (f : α → β) (g : β → γ) (p : PR α) : (p.map f).map g = p.map (fun a => g (f a)) := by cases p <;> rfl
theorem PR.map_id {α : Type} {f : α → α} (h : ∀ a,f a = a) (p : PR α) : p.map f = p := by
 cases p with
 | err e => rfl
 | ok a r => simp [h]
theorem getFrom_used : ∀ (b : List UInt8) (i n : Nat),(getFrom i n b).2.1 ≤ i + b.length
 | [],_,_ => by simp [getFrom]
 | c :: r,i,n => by
  have := getFrom_used r (i + 1) (n + (c.toNat % 128) * 2 ^ (7 * i))
  rw [getFrom]
  simp only [List.length_cons]
  split
  ·simp
  ·split
   ·split
    ·simp
    ·simp only; omega
   ·omega
theorem get_used (b : List UInt8) : (get b).2.1 ≤ b.length := by
 have := getFrom_used b 0 0
 unfold get; omega
end Go.Am.Ab
namespace Go.Am.Ab
set_option maxHeartbeats 4000000
end Go.Am.Ab
namespace Go.Am.Ab
set_option maxHeartbeats 4000000
end Go.Am.Ab
namespace Go.Am.Ab
set_option maxHeartbeats 4000000
end Go.Am.Ab
