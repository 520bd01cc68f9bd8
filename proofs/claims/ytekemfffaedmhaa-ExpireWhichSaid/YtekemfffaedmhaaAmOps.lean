/- Operations that make no memory and write none. -/
import Derived.Test.YtekemfffaedmhaaAmEval
import GoSem.Dispatch
set_option linter.all false
namespace Go.Am
section
variable {X : Nat → Nat → Prop} {ρ ρ' ρ'' : Places} {h h' h'' : List Obj} {w w' w'' : World} {P : Program}

theorem sizeOf?_info {t : TypeId} {n : Nat} (hn : sizeOf? P t = some n) : ∃ i, P.info? t = some i ∧ i.size = n := by
  simpa [sizeOf?] using hn

theorem RoVal.drop {M : Nat → Nat → Prop} {b o k : Nat} {vs : Nat → Value} {cs : List D}
    (h1 : ∀ (j : Nat) (c : D), cs[j]? = some c → w.cell? ⟨b, o + j, none⟩ = some (vs j) ∧ ¬ M b (o + j) ∧ c.isCell = true)
    (h2 : ∀ (j : Nat) (c : D), cs[j]? = some c → Rep M w (vs j) c) : RoVal M w (.pointer (some ⟨b, o + k, none⟩)) (cs.drop k) :=
  ⟨b, o + k, fun j => vs (k + j), rfl, fun j c hj => by rw [List.getElem?_drop] at hj; rw [Nat.add_assoc]; exact h1 _ c hj, fun j c hj => by rw [List.getElem?_drop] at hj; exact h2 _ c hj⟩

theorem fieldAddrV_sound {t : TypeId} {A x : V} {f : Nat} {v : Value} (hx : fieldAddrV P t A f = some x) (hv : VRel X ρ h w v A) :
    ∃ u, (Instr.fieldAt t v f).run P w = .ok u w ∧ VRel X ρ h w u x := by
  unfold fieldAddrV at hx
  split at hx
  · rename_i o ft hf
    unfold fieldOff? at hf
    split at hf
    · rename_i fs hs
      split at hf
      · rename_i fd hfd
        split at hf
        · rename_i n hsz
          simp only [Option.some.injEq, Prod.mk.injEq] at hf
          obtain ⟨rfl, rfl⟩ := hf
          have hrun : ∀ b o', (Instr.fieldAt t (.pointer (some ⟨b, o', none⟩)) f).run P w = .ok (.pointer (some ⟨b, o' + fd.offset, none⟩)) w := fun b o' => by
            simp [Instr.fieldAt, run_underlying hs, hfd, Instr.sureAddr, fieldPlace, sizeOf_run hsz, Addr.add_lit]
          cases A with
          | ptr id off =>
            simp only [Option.some.injEq] at hx; subst hx
            obtain ⟨ob, b, c, h1, h2, h3, rfl⟩ := hv
            exact ⟨_, hrun _ _, ob, b, c, h1, h2, h3, rfl⟩
          | eptr id m i off =>
            simp only [Option.some.injEq] at hx; subst hx
            obtain ⟨⟨a, rfl⟩, sz, xs, wm, r, h1, h2, h3, h4⟩ := hv
            obtain ⟨b, o, sp⟩ := a
            by_cases hm : m = xs.length
            · obtain ⟨b', c, rfl, e⟩ := h4 hm
              simp only [Value.pointer.injEq, Option.some.injEq, Addr.mk.injEq] at e
              obtain ⟨rfl, rfl, rfl⟩ := e
              exact ⟨_, hrun _ _, ⟨_, rfl⟩, sz, xs, wm, _, h1, h2, h3, fun _ => ⟨b, c, rfl, by rw [Nat.add_assoc]⟩⟩
            · refine ⟨.pointer (some ((Addr.mk b o sp).add fd.offset)), ?_, ⟨_, rfl⟩, sz, xs, wm, r, h1, h2, h3, fun e => absurd e hm⟩
              · simp [Instr.fieldAt, run_underlying hs, hfd, Instr.sureAddr, fieldPlace, sizeOf_run hsz]
          | ro cs =>
            simp only [Option.some.injEq] at hx; subst hx
            obtain ⟨b, o, vs, rfl, h1, h2⟩ := hv
            exact ⟨_, hrun _ _, RoVal.drop h1 h2⟩
          | _ => simp at hx
        · cases hf
      · cases hf
    · cases hf
  · cases hx

theorem indexAddrV_sound {t : TypeId} {A I x : V} {v i : Value} (hx : indexAddrV P h t A I = some x) (H : HRel X ρ h w) (hv : VRel X ρ h w v A) (hi : VRel X ρ h w i I) :
    ∃ u, (Instr.indexAt t v i).run P w = .ok u w ∧ VRel X ρ h w u x := by
  unfold indexAddrV at hx
  split at hx
  · rename_i e k n hs
    cases hi
    split at hx
    · rename_i hn
      obtain ⟨m, rfl⟩ := Int.eq_ofNat_of_zero_le hn
      simp only [Int.toNat_natCast] at hx
      have hrun : ∀ b o len cap sz, sizeOf? P e = some sz → m < len → (Instr.indexAt t (.slice (some ⟨b, o, none⟩) len cap) (.int k m)).run P w = .ok (.pointer (some ⟨b, o + m * sz, none⟩)) w := by
        intro b o len cap sz hsz hlt
        simp [Instr.indexAt, asIntOf, run_underlying hs, sizeOf_run hsz, Addr.add_lit]
        intro hc; omega
      split at hx
      · rename_i xs
        split at hx
        · rename_i y sz hy hsz
          split at hx
          · rename_i hyl
            simp only [Option.some.injEq] at hx; subst hx
            cases hv with
            | nil a c => simp at hy
            | list b off len cap sz' xs vs e1 e2 e3 e4 e5 =>
              have hm := lt_of_getElem? hy
              have hszz : sz' = sz := by rw [← e3 y (List.mem_of_getElem? hy), hyl]
              subst hszz
              refine ⟨_, hrun b off len cap _ hsz (by omega), b, off + m * sz', fun j => vs (m * sz' + j), rfl, fun j c hj => ?_, fun j c hj => ?_⟩
              · have := e4 _ c (flat_get e3 hy hj)
                rwa [← Nat.add_assoc] at this
              · exact e5 _ c (flat_get e3 hy hj)
          · cases hx
        · cases hx
      · rename_i id len
        split at hx
        · rename_i sz xs wm sz' ho hsz
          split at hx
          · rename_i hc
            obtain ⟨rfl, hlt, rfl⟩ := hc
            simp only [Option.some.injEq] at hx; subst hx
            obtain ⟨_, sz2, xs2, wm2, r, h1, h2, h3, h4⟩ := hv
            rw [ho] at h1; cases h1
            have hav := h4 rfl
            obtain ⟨r', h5, h6⟩ := H.obj id _ ho
            rw [h2] at h5; cases h5
            cases r with
            | none =>
              have := h6.2
              subst this
              simp at hlt
            | some p =>
              obtain ⟨b, cap⟩ := p
              simp only [ArrVal] at hav
              subst hav
              refine ⟨_, hrun b 0 _ cap _ hsz hlt, ⟨_, rfl⟩, sz, xs, wm, _, ho, h2, Nat.le_refl _, fun _ => ⟨b, cap, rfl, by simp⟩⟩
          · cases hx
        · cases hx
      · cases hx
    · cases hx
  · rename_i len e k n hs
    cases hi
    split at hx
    · rename_i hn
      obtain ⟨m, rfl⟩ := Int.eq_ofNat_of_zero_le hn.1
      have hlt : (m : Int) < len := hn.2
      simp only [Int.toNat_natCast] at hx
      have hrun : ∀ b o sz, sizeOf? P e = some sz → (Instr.indexAt t (.pointer (some ⟨b, o, none⟩)) (.int k m)).run P w = .ok (.pointer (some ⟨b, o + m * sz, none⟩)) w := by
        intro b o sz hsz
        simp [Instr.indexAt, asIntOf, run_underlying hs, Instr.sureAddr, sizeOf_run hsz, Addr.add_lit]
        intro hc; omega
      split at hx
      · rename_i id off sz hsz
        simp only [Option.some.injEq] at hx; subst hx
        obtain ⟨ob, b, c, h1, h2, h3, rfl⟩ := hv
        exact ⟨_, hrun b off sz hsz, ob, b, c, h1, h2, h3, rfl⟩
      · rename_i cs sz hsz
        simp only [Option.some.injEq] at hx; subst hx
        obtain ⟨b, o, vs, rfl, h1, h2⟩ := hv
        exact ⟨_, hrun b o sz hsz, RoVal.drop h1 h2⟩
      · cases hx
    · cases hx
  · cases hx

theorem equalIn_bool (d : Nat) {t : TypeId} (ht : P.underlying t = some .bool) (a b : Bool) : (Op.equalIn (d + 1) t (.bool a) (.bool b)).run P w = .ok (a == b) w := by
  simp only [Op.equalIn, Sem.run_bind, run_underlying ht, Result.andThen_ok, Sem.run_pure]

theorem binD_sound {op : BinOp} {t : TypeId} {A B : V} {x : D} {v u : Value} {Xo Yo : Operand} (hx : binD P op t A B = some x) (hv : VRel X ρ h w v A) (hu : VRel X ρ h w u B) :
    ∃ z, (do eqGuard op t Xo Yo v u; binOp op t v u : Sem Value).run P w = .ok z w ∧ Rep (Mut X ρ h) w z x := by
  have hg : ∀ k a k' b, (eqGuard op t Xo Yo (.int k a) (.int k' b)).run P w = .ok () w := fun k a k' b => by
    unfold eqGuard; cases op <;> simp
  have hgs : ∀ a b, (eqGuard op t Xo Yo (.string a) (.string b)).run P w = .ok () w := fun a b => by
    unfold eqGuard; cases op <;> simp
  have hgb : ∀ a b, (eqGuard op t Xo Yo (.bool a) (.bool b)).run P w = .ok () w := fun a b => by
    unfold eqGuard; cases op <;> simp
  unfold binD at hx
  split at hx
  · rename_i k a k' b
    cases hv; cases hu
    split at hx
    · unfold shiftBin at hx
      split at hx
      · cases hx
      · rename_i hb
        simp only [Option.some.injEq] at hx; subst hx
        refine ⟨_, ?_, .int _ _⟩
        simp [hg, binOp, Op.shift, hb]
    · unfold shiftBin at hx
      split at hx
      · cases hx
      · rename_i hb
        simp only [Option.some.injEq] at hx; subst hx
        refine ⟨_, ?_, .int _ _⟩
        simp [hg, binOp, Op.shift, hb]
    · rename_i hs1 hs2
      split at hx
      · rename_i hk
        subst hk
        have hbin : binOp op t (.int k a) (.int k b) = (match op with
            | .add | .sub | .mul => Op.intArith op k a b
            | .quo | .rem => Op.intDiv op k a b
            | .and | .or | .xor | .andNot => Op.intBits op k a b
            | _ => Op.intCmp op a b) := by
          cases op <;> first | (exfalso; exact hs1 rfl) | (exfalso; exact hs2 rfl) | simp [binOp]
        cases op <;> simp only [intBin] at hx <;> (try (exfalso; first | exact hs1 rfl | exact hs2 rfl))
        case quo =>
          split at hx
          · cases hx
          · rename_i h0
            simp only [Option.some.injEq] at hx; subst hx
            exact ⟨_, by simp [hg, hbin, Op.intDiv, h0], .int _ _⟩
        case rem =>
          split at hx
          · cases hx
          · rename_i h0
            simp only [Option.some.injEq] at hx; subst hx
            exact ⟨_, by simp [hg, hbin, Op.intDiv, h0], .int _ _⟩
        all_goals
          simp only [Option.some.injEq] at hx; subst hx
          first
            | exact ⟨_, by rw [Sem.run_bind, hg, Result.andThen_ok, hbin]; rfl, .int _ _⟩
            | exact ⟨_, by rw [Sem.run_bind, hg, Result.andThen_ok, hbin]; rfl, .bool _⟩
      · cases hx
  · rename_i a b
    cases hv; cases hu
    unfold strBin at hx
    split at hx
    · split at hx
      · rename_i hlt
        simp only [Option.some.injEq] at hx; subst hx
        refine ⟨_, ?_, .str _⟩
        simp [hgs, binOp, Op.stringOp]
        omega
      · cases hx
    all_goals first
      | cases hx; done
      | (simp only [Option.some.injEq] at hx; subst hx
         exact ⟨_, by simp [hgs, binOp, Op.stringOp], .bool _⟩)
  · rename_i a b
    cases hv; cases hu
    split at hx
    · rename_i ht
      have heq : (Op.equal t (.bool a) (.bool b)).run P w = .ok (a == b) w := by
        exact equalIn_bool 9999 ht a b
      split at hx
      · simp only [Option.some.injEq] at hx; subst hx
        exact ⟨_, by simp [hgb, binOp, heq], .bool _⟩
      · simp only [Option.some.injEq] at hx; subst hx
        exact ⟨_, by simp [hgb, binOp, heq], .bool _⟩
      · cases hx
    · cases hx
  · cases hx

theorem unD_sound {op : UnOp} {A : V} {x : D} {v : Value} (hx : unD op A = some x) (hv : VRel X ρ h w v A) :
    ∃ z, (Op.unary op v).run P w = .ok z w ∧ Rep (Mut X ρ h) w z x := by
  unfold unD at hx
  split at hx
  · cases hv
    simp only [Option.some.injEq] at hx; subst hx
    exact ⟨_, by simp [Op.unary, Op.intArith], .int _ _⟩
  · cases hv
    simp only [Option.some.injEq] at hx; subst hx
    exact ⟨_, rfl, .int _ _⟩
  · cases hv
    simp only [Option.some.injEq] at hx; subst hx
    exact ⟨_, by simp [Op.unary], .bool _⟩
  · cases hx

end
end Go.Am
