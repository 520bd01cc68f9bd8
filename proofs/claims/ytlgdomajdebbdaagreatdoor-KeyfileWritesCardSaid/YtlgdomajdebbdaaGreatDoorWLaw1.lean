/- The statement that the bytes of any values are the document's. -/
import Derived.Test.YtlgdomajdebbdaaGreatDoorRColB
import Derived.Test.YtlgdomajdebbdaaGreatDoorColE
set_option linter.all false
namespace Go.Am.Ab
open Go.Proofs
set_option maxHeartbeats 8000000
set_option maxRecDepth 4000
theorem writeA_odd (k : Nat) (hk : 1 ≤ k ∧ k ≤ 3) (X : List Val) (hn : X.length ≤ 4611686018427387903) (h : X.any (oddV k) = true) : R 64 [.d (.int .u8 k),.d (.list (vs X))] [] = badW 10 := by
 have hc : k = 1 ∨ k = 2 ∨ k = 3 := by omega
 rcases hc with rfl | rfl | rfl
 ·exact write1_odd X hn h
 ·exact write2_odd X hn h
 ·exact write3_odd X hn h
theorem writeA_much (k : Nat) (hk : 1 ≤ k ∧ k ≤ 3) (X : List Val) (hn : X.length ≤ 4611686018427387903) (hm : 256 < X.length) (h : X.any (oddV k) = false) : R 64 [.d (.int .u8 k),.d (.list (vs X))] [] = badW 5 := by
 have hc : k = 1 ∨ k = 2 ∨ k = 3 := by omega
 rcases hc with rfl | rfl | rfl
 ·exact write1_much X hn hm h
 ·exact write2_much X hn hm h
 ·exact write3_much X hn hm h
theorem cels_good {k : Nat} {l : List Cel} (hvl : ∀ c ∈ l,chk c = 0) (hi : ∀ c ∈ l,isI64 c.n) (hok : l.any (oddC k) = false) : Good k (l.map valOf) := by
 intro v hv
 obtain ⟨c,hc,rfl⟩ := List.mem_map.1 hv
 have h := hvl c hc
 have ho := List.any_eq_false.1 hok c hc
 obtain ⟨h1,h2,h3,h4,h5⟩ := chk_kind h
 by_cases z : c.kind = 0
 ·exact .inl (val_none h z)
 ·have e : c.kind = k := by simpa [oddC,z] using ho
  right
  refine ⟨by rw [val_kind h]; exact e,fun n en => ?_,fun s es => ?_⟩
  ·have hk : c.kind = 1 := by rw [← val_kind h,en]; rfl
   rw [val_whole h hk] at en
   cases en
   exact hi c hc
  ·have hk : c.kind = 3 := by rw [← val_kind h,es]; rfl
   rw [val_text h hk] at es
   cases es
   exact h5
theorem both_write (k : Nat) (hk : k < 256) (l : List Cel) (hvl : ∀ c ∈ l,chk c = 0) (hi : ∀ c ∈ l,isI64 c.n) (hn : l.length ≤ 600) :
  ∃ (b : List UInt8) (e : Nat),b.length ≤ 1000000 ∧ R 64 [.d (.int .u8 k),.d (.list (vs (l.map valOf)))] [] = some ([.arr 0 b.length,E e],[.arr 1 (bytes b) 0]) ∧ R 67 [.d (.int .i64 k),.d (.list (ce l))] [] = some ([.arr 0 b.length,E e],[.arr 1 (bytes b) 0]) := by
 have hl : ∀ c ∈ l,c.kind < 256 := fun c hc => by have := (chk_kind (hvl c hc)).1; omega
 by_cases h1 : 1 ≤ k ∧ k ≤ 3
 case neg => exact ⟨[],10,by simp,write_no k hk h1 _,rwrite_kind k hk h1 l⟩
 cases h2 : l.any (oddC k) with
 | true => exact ⟨[],10,by simp,writeA_odd k h1 _ (by simp; omega) (by rw [any_odd hvl]; exact h2),rwrite_odd k h1 l hl (by omega) h2⟩
 | false =>
  by_cases h3 : 256 < l.length
  ·exact ⟨[],5,by simp,writeA_much k h1 _ (by simp; omega) (by simpa using h3) (by rw [any_odd hvl]; exact h2),rwrite_much k h1 l hl (by omega) h3 h2⟩
  ·have g := cels_good hvl hi h2
   have hcl := colB_len h1 g (by simp; omega)
   refine ⟨colB k (l.map valOf),0,by omega,write_ok k h1 _ g (by simp; omega), ?_⟩
   have hc : k = 1 ∨ k = 2 ∨ k = 3 := by omega
   rcases hc with e | e | e
   ·exact rwrite1_yes k e l hvl hi (by omega) h2
   ·exact rwrite2_yes k e l hvl hi (by omega) h2
   ·exact rwrite3_yes k e l hvl (by omega) h2
end Go.Am.Ab
