/- The statement on what bytes are read. -/
import Derived.Test.YtlgdomajdebbdaaGreatRColD
import Derived.Test.YtlgdomajdebbdaaGreatColE
set_option linter.all false
namespace Go.Am.Ab
open Go.Proofs
set_option maxHeartbeats 4000000
def okE (e : Nat) : Prop := e = 30 ∨ e = 31 ∨ e = 32 ∨ e = 40 ∨ e = 50
def PR.fine {α : Type} : PR α → Prop
 | .err e => okE e
 | .ok _ _ => True
theorem PR.fine_map {α β : Type} {f : α → β} {p : PR α} (h : p.fine) : (p.map f).fine := by cases p <;> exact h
theorem get_fine (b : List UInt8) : (get b).2.2 = 0 ∨ okE (get b).2.2 := by
 unfold okE
 rcases get_err b with h | h | h
 ·exact .inl h
 ·rw [h]; right; left; rfl
 ·rw [h]; right; right; left; rfl
theorem get_fine' {b : List UInt8} (h : (get b).2.2 ≠ 0) : okE (get b).2.2 := (get_fine b).resolve_left h
theorem pNum_fine (b : List UInt8) : (pNum b).fine := by
 unfold pNum
 split
 ·trivial
 ·rename_i h; exact get_fine' h
theorem pInt_fine (b : List UInt8) : (pInt b).fine := by
 unfold pInt
 split
 ·trivial
 ·rename_i h; exact get_fine' h
theorem ok40 : okE 40 := by unfold okE; omega
theorem ok30 : okE 30 := by unfold okE; omega
theorem ok32 : okE 32 := by unfold okE; omega
theorem pSeq_fine (dl : Bool) : ∀ (n : Nat) (a : Int) (b : List UInt8),(pSeq dl n a b).fine
 | 0,_,_ => trivial
 | n + 1,a,b => by
  have h := pInt_fine b
  unfold pSeq
  split
  ·rename_i e; rw [e] at h; exact h
  ·exact PR.fine_map (pSeq_fine dl n _ _)
theorem pRuns_fine : ∀ (f m : Nat) (b : List UInt8),(pRuns f m b).fine
 | _,0,_ => by unfold pRuns; trivial
 | 0,m + 1,_ => by unfold pRuns; exact ok40
 | f + 1,m + 1,b => by
  have h := pInt_fine b
  unfold pRuns
  split
  ·rename_i e; rw [e] at h; exact h
  ·rename_i r e
   have h2 := pNum_fine r
   split
   ·rename_i e; rw [e] at h2; exact h2
   ·split
    ·exact ok40
    ·exact PR.fine_map (pRuns_fine f _ _)
theorem pRise_fine : ∀ (n : Nat) (a : Int) (b : List UInt8),(pRise n a b).fine
 | 0,_,_ => trivial
 | n + 1,a,b => by
  have h := pNum_fine b
  unfold pRise
  split
  ·rename_i e; rw [e] at h; exact h
  ·split
   ·exact ok40
   ·exact PR.fine_map (pRise_fine n _ _)
theorem pPacked_fine (n w : Nat) (b : List UInt8) : (pPacked n w b).fine := by
 unfold pPacked
 split
 ·exact ok30
 ·split
  ·exact ok32
  ·split
   ·trivial
   ·exact ok40
theorem pHead_fine (m : Nat) (b : List UInt8) : (pHead m b).fine := by
 have h := pInt_fine b
 unfold pHead
 split
 ·trivial
 ·split
  ·rename_i e; rw [e] at h; exact h
  ·exact PR.fine_map (pRise_fine _ _ _)
theorem pTail_fine (n m : Nat) (u : List Int) (b : List UInt8) : (pTail n m u b).fine := by
 have h := pPacked_fine n (blen (m - 1)) b
 unfold pTail
 split
 ·trivial
 ·split
  ·rename_i e; rw [e] at h; exact h
  ·split
   ·trivial
   ·exact ok40
theorem pDict_fine (n : Nat) (b : List UInt8) : (pDict n b).fine := by
 have h := pNum_fine b
 unfold pDict
 split
 ·rename_i e; rw [e] at h; exact h
 ·rename_i many r e
  split
  ·exact ok40
  ·have h := pHead_fine many r
   split
   ·rename_i e; rw [e] at h; exact h
   ·exact pTail_fine _ _ _ _
theorem pLeast_fine (n : Nat) (b : List UInt8) : (pLeast n b).fine := by
 have h := pInt_fine b
 unfold pLeast
 split
 ·trivial
 ·split
  ·rename_i e; rw [e] at h; exact h
  ·rename_i r e
   have h := pNum_fine r
   split
   ·rename_i e; rw [e] at h; exact h
   ·split
    ·exact ok40
    ·exact PR.fine_map (pPacked_fine _ _ _)
theorem pList_fine (c n : Nat) (b : List UInt8) : (pList c n b).fine := by
 unfold pList
 split
 ·exact pSeq_fine _ _ _ _
 ·exact pSeq_fine _ _ _ _
 ·exact pRuns_fine _ _ _
 ·exact pDict_fine _ _
 ·exact pLeast_fine _ _
theorem readI_fine {b : List UInt8} {n : Int} (h0 : 0 ≤ n) (hn : n ≤ 256) (h : (readI b n).2 ≠ 0) : okE (readI b n).2 := by
 unfold readI at h ⊢
 rw [if_neg (by omega)] at h ⊢
 split at h
 ·exact ok30
 ·rename_i c r
  split at h
  ·rename_i h1
   rw [if_pos h1]
   unfold okE; omega
  ·rename_i h1
   rw [if_neg h1]
   have hf := pList_fine c.toNat n.toNat r
   unfold pEnd at h ⊢
   split at h
   ·rename_i e; rw [e] at hf; simp only [e]; exact hf
   ·rename_i e
    split
    ·exact ok32
    ·split
     ·rename_i h2 h3
      rw [if_neg h2,if_pos h3] at h
      exact absurd rfl h
     ·exact ok40
theorem unpackC_fine {b : List UInt8} {n : Nat} (h : (unpackC b n).2 ≠ 0) : okE (unpackC b n).2 := by
 unfold unpackC at h ⊢
 split
 ·exact ok40
 ·rename_i h1
  rw [if_neg h1] at h
  split
  ·rename_i h2
   rw [if_pos h2] at h
   exact absurd rfl h
  ·exact ok40
theorem pTexts_fine : ∀ (sz : List Int) (b : List UInt8),(pTexts sz b).fine
 | [],_ => trivial
 | k :: r,b => by
  unfold pTexts
  split
  ·exact ok40
  ·split
   ·exact ok30
   ·exact PR.fine_map (pTexts_fine r _)
theorem pCut_fine {n : Nat} (hn : n ≤ 256) (b : List UInt8) : (pCut (n : Int) b).fine := by
 unfold pCut
 split
 ·rename_i h; exact get_fine' h
 ·split
  ·exact ok30
  ·split
   ·rename_i h; exact readI_fine (by omega) (by omega) h
   ·exact pTexts_fine _ _
theorem pWords_fine {n : Nat} (hn : n ≤ 256) {b : List UInt8} (h : (pWords n b).2 ≠ 0) : okE (pWords n b).2 := by
 unfold pWords at h ⊢
 split at h
 ·exact ok30
 ·rename_i c r
  split at h
  ·rename_i h1
   rw [if_pos h1]
   have hc := pCut_fine hn r
   split at h
   ·rename_i e; rw [e] at hc; simp only [e]; exact hc
   ·rename_i e
    split
    ·exact ok32
    ·rename_i h2
     rw [if_neg h2] at h
     exact absurd rfl h
  ·rename_i h1
   rw [if_neg h1]
   split at h
   ·rename_i h2
    rw [if_pos h2]
    exact get_fine' h2
   ·rename_i h2
    rw [if_neg h2]
    split at h
    ·rename_i h3
     rw [if_pos h3]
     exact ok40
    ·rename_i h3
     rw [if_neg h3]
     have hc := pCut_fine (n := (get r).1) (by omega) (r.drop (get r).2.1)
     split at h
     ·rename_i e; rw [e] at hc; simp only [e]; exact hc
     ·rename_i u rest e
      split at h
      ·rename_i h4
       rw [if_pos h4]
       exact readI_fine (by omega) (by omega) h4
      ·rename_i h4
       rw [if_neg h4]
       split at h
       ·exact absurd rfl h
       ·rename_i h5
        rw [if_neg h5]
        exact ok40
theorem valuesC_fine {k n : Nat} (hn : n ≤ 256) {b : List UInt8} (h : (valuesC k n b).2 ≠ 0) : okE (valuesC k n b).2 := by
 unfold valuesC at h ⊢
 split at h
 ·rename_i h1
  rw [if_pos h1]
  exact readI_fine (by omega) (by omega) h
 ·rename_i h1
  rw [if_neg h1]
  split at h
  ·rename_i h2
   rw [if_pos h2]
   exact unpackC_fine h
  ·rename_i h2
   rw [if_neg h2]
   exact pWords_fine hn h
theorem pHeadC_fine (n : Nat) (b : List UInt8) : (pHeadC n b).fine := by
 unfold pHeadC
 split
 ·exact ok30
 ·split
  ·exact ok40
  ·split
   ·split
    ·exact ok30
    ·split
     ·rename_i h; exact unpackC_fine h
     ·trivial
   ·trivial
theorem pHeadC_bits {n : Nat} {b r : List UInt8} {th : List Nat} (h : pHeadC n b = .ok th r) : ∀ x ∈ th,x ≤ 1 := by
 unfold pHeadC at h
 split at h
 ·cases h
 ·split at h
  ·cases h
  ·split at h
   ·split at h
    ·cases h
    ·split at h
     ·cases h
     ·simp only [PR.ok.injEq] at h
      rw [← h.1]
      exact unpackC_bits _ _
   ·simp only [PR.ok.injEq] at h
    rw [← h.1]
    intro x hx
    rw [(List.mem_replicate.1 hx).2]; omega
theorem readC_fine {k n : Nat} (hn : n ≤ 256) {b : List UInt8} (h : (readC k n b).2 ≠ 0) : okE (readC k n b).2 := by
 unfold readC at h ⊢
 have hf := pHeadC_fine n b
 cases hp : pHeadC n b with
 | err e => rw [hp] at hf; exact hf
 | ok th r =>
  rw [hp] at h
  simp only at h ⊢
  have hl := pHeadC_len hp
  have hs := sum_le (pHeadC_bits hp)
  split at h
  ·rename_i h1
   rw [if_pos h1]
   exact valuesC_fine (by omega) h1
  ·exact absurd rfl h
theorem val_cell {k : Nat} {v : Val} (g : goodV k v) : valOf (cellOf v) = v ∧ (cellOf v).s.size ≤ 64 := by
 rcases g with rfl | ⟨_,_,h⟩
 ·exact ⟨rfl,by decide⟩
 ·cases v with
  | null => exact ⟨rfl,by decide⟩
  | whole n => exact ⟨rfl,Nat.zero_le 64⟩
  | truth b => cases b <;> exact ⟨rfl,by decide⟩
  | text s =>
   have hs := h s rfl
   refine ⟨?_,hs⟩
   have hc : chk ⟨3,0,s⟩ = 0 := by
    unfold chk
    rw [if_neg (by simp),if_neg (by simp),if_neg (by simp only; omega)]
   exact val_text hc rfl
theorem rTexts_flat : ∀ (l : List ByteArray) (t : List UInt8),rTexts (sizesL l) (flatT l l.length ++ t) = some (l,t)
 | [],t => rfl
 | s :: r,t => by
  have hl := str_len s
  have ih := rTexts_flat r t
  rw [flatT_cons,sizesL,List.map_cons,rTexts,if_neg (by rw [List.append_assoc,List.length_append,hl]; omega),List.append_assoc,Int.toNat_natCast]
  rw [show List.map (fun s => (s.size : Int)) r = sizesL r from rfl]
  rw [List.drop_append_of_le_length (by omega),List.take_append_of_le_length (by omega),List.drop_of_length_le (by omega),List.take_of_length_le (by omega),List.nil_append,ih]
  rfl
theorem rcutM_texts (l : List ByteArray) (t : List UInt8) (h : ∀ s ∈ l,s.size ≤ 64) (hn : l.length ≤ 256) : rcutM l.length (textsB l ++ t) = some (sizesL l,flatT l l.length ++ t,0) := by
 have hsi := sizes_is h
 have hsl : (sizesL l).length = l.length := by simp [sizesL]
 have hbl := bestB_len hsi (by omega)
 have hr := readI_best hsi (by omega)
 rw [hsl] at hr
 unfold rcutM textsB countedB
 rw [List.append_assoc,List.append_assoc,get_put (by omega)]
 simp only [ne_eq,not_true_eq_false,if_false,List.drop_left]
 rw [if_neg (by rw [List.length_append]; omega),List.take_left,hr]
theorem rwords_words (l : List ByteArray) (h : ∀ s ∈ l,s.size ≤ 64) (hn : l.length ≤ 256) : rwordsM l.length (wordsB l) = (l,true) := by
 unfold wordsB
 split
 ·have hu : ∀ s ∈ uniS l,s.size ≤ 64 := fun s hs => h s (uniS_mem.1 hs)
  have hul := uniS_length_le l
  have hpi := placesS_is hn
  have hpl : (placesS l).length = l.length := by simp [placesS]
  have hcut := rcutM_texts (uniS l) (bestB (placesS l)) hu (by omega)
  have hr := readI_best hpi (by omega)
  rw [hpl] at hr
  have hall : ∀ k ∈ placesS l,0 ≤ k ∧ k < ((uniS l).length : Int) := by
   intro k hk
   obtain ⟨s,hs,rfl⟩ := List.mem_map.1 hk
   have := ixS_lt (uniS_mem.2 hs)
   omega
  unfold listT
  rw [List.append_assoc,List.cons_append,rwordsM]
  rw [if_neg (by decide),if_pos (by decide),get_put (by omega)]
  simp only [ne_eq,not_true_eq_false,if_false,List.drop_left]
  rw [if_neg (by omega),rbodyM,hcut]
  simp only [ne_eq,not_true_eq_false,if_false,rTexts_flat,Bool.true_eq_false,hr]
  rw [if_pos hall,pick_places]
  rfl
 ·have hcut := rcutM_texts l [] h hn
  have hf := rTexts_flat l []
  rw [List.append_nil] at hcut hf
  unfold plainT
  rw [rwordsM]
  rw [if_neg (by decide),if_neg (by decide),rbodyM,hcut]
  rw [List.append_nil]
  simp only [ne_eq,not_true_eq_false,if_false,hf,if_true]
theorem rvals_body {k : Nat} (hk : 1 ≤ k ∧ k ≤ 3) {l : List Val} (g : Good k l) (hn : l.length ≤ 256) : rvalsM k (own l).length (bodyB k l) = some ((own l).map cellOf) := by
 have hkl := kinds_len l
 have h : k = 1 ∨ k = 2 ∨ k = 3 := by omega
 unfold rvalsM bodyB
 rcases h with rfl | rfl | rfl
 ·have hw := own_wholes g
  have hi := wholes_is g.i64
  have hlen : (own l).length = (wholes l).length := by rw [← hw]; simp
  rw [hlen]
  simp only [if_true]
  rw [readI_best hi (by omega),← hw]
  simp [cellOf,Function.comp]
 ·have hw := own_truths g
  have hlen : (own l).length = (truths l).length := by rw [← hw]; simp
  rw [hlen,if_neg (show ¬ (2 : Nat) = 1 by decide),if_neg (show ¬ (2 : Nat) = 1 by decide),if_pos (show (2 : Nat) = 2 from rfl),if_pos (show (2 : Nat) = 2 from rfl),unpack_flags,← hw]
  simp only [ne_eq,not_true_eq_false,if_false,List.map_map]
  congr 1
  apply List.map_congr_left
  intro b _
  cases b <;> rfl
 ·have hw := own_texts g
  have hs := texts_is g.long
  have hlen : (own l).length = (texts l).length := by rw [← hw]; simp
  rw [hlen,if_neg (show ¬ (3 : Nat) = 1 by decide),if_neg (show ¬ (3 : Nat) = 1 by decide),if_neg (show ¬ (3 : Nat) = 2 by decide),if_neg (show ¬ (3 : Nat) = 2 by decide),rwords_words (texts l) hs (by omega),← hw]
  simp [cellOf,Function.comp]
theorem scatC_own : ∀ l : List Val,scatC ((thereL l).map bit) ((own l).map cellOf) = l.map cellOf
 | [] => rfl
 | v :: r => by
  have ih := scatC_own r
  by_cases h : v = .null
  ·subst h
   simpa [thereL,own,bit,scatC,cellOf] using ih
  ·have hd : decide (v ≠ .null) = true := by simp [h]
   simp only [thereL,own,List.map_cons,List.filter_cons,hd,if_true,scatC] at ih ⊢
   rw [if_neg (by decide)]
   simp only [List.headD_cons,List.tail_cons,ih]
theorem rread_back {k : Nat} (hk : 1 ≤ k ∧ k ≤ 3) {l : List Val} (g : Good k l) (hn : l.length ≤ 256) : rreadM k l.length (colB k l) = (l.map cellOf,true) := by
 unfold rreadM
 conv => lhs; rw [show colB k l = headB l ++ bodyB k l from rfl,head_read]
 simp only
 rw [sum_bits,rvals_body hk g hn]
 simp only
 rw [scatC_own]
 congr 1
 unfold rokM
 have hv : (l.map cellOf).map valOf = l := by
  rw [List.map_map]
  conv => rhs; rw [← List.map_id l]
  apply List.map_congr_left
  intro v hv
  exact (val_cell (g v hv)).1
 refine decide_eq_true ⟨fun c hc => ?_,by rw [hv]; rfl⟩
 obtain ⟨v,hv,rfl⟩ := List.mem_map.1 hc
 exact (val_cell (g v hv)).2
theorem readC1_goodV {k : Nat} (hk : 1 ≤ k ∧ k ≤ 3) {c : Cel} (h : readC1 k c) (hs : c.s.size ≤ 64) : goodV k (valOf c) := by
 obtain ⟨h1,h2⟩ := readC1_ok hk h hs
 refine valOf_good hk h1 h2 ?_
 rcases h with h | h
 ·exact .inl h
 ·exact .inr h.1
theorem read_yes {k n : Nat} (hk : 1 ≤ k ∧ k ≤ 3) (hn : n ≤ 256) {b : List UInt8} (h : (rreadM k n b).2 = true) : ∃ l,Good k l ∧ l.length = n ∧ readTop k b n = (l,0) ∧ (rreadM k n b).1 = l.map cellOf := by
 unfold rreadM at h ⊢
 cases hp : pHeadC n b with
 | err e => rw [hp] at h; simp at h
 | ok th r =>
  rw [hp] at h
  simp only at h ⊢
  cases hv : rvalsM k th.sum r with
  | none => rw [hv] at h; simp at h
  | some o =>
   rw [hv] at h
   simp only at h ⊢
   obtain ⟨h1,h2⟩ := of_decide_eq_true h
   obtain ⟨_,g1,g2⟩ := rvalsM_good hk hv
   obtain ⟨g3,g4⟩ := scatC_good (th := th) ⟨g1,g2⟩
   have hl : ((scatC th o).map valOf).length = n := by rw [List.length_map,scatC_length,pHeadC_len hp]
   have g : Good k ((scatC th o).map valOf) := fun v hv => by
    obtain ⟨c,hc,rfl⟩ := List.mem_map.1 hv
    exact readC1_goodV hk (g3 c hc) (h1 c hc)
   refine ⟨(scatC th o).map valOf,g,hl, ?_, ?_⟩
   ·have := top_back hk g (by omega)
    rw [h2,hl] at this
    exact this
   ·rw [List.map_map]
    conv => lhs; rw [← List.map_id (scatC th o)]
    apply List.map_congr_left
    intro c hc
    exact (cell_back (readC1_ok hk (g3 c hc) (h1 c hc)).1).symm
theorem read_no {k n : Nat} (hk : 1 ≤ k ∧ k ≤ 3) (hn : n ≤ 256) {b : List UInt8} (h : (rreadM k n b).2 = false) : okE (readTop k b n).2 ∧ (readTop k b n).1 = [] := by
 unfold readTop
 rw [if_neg (fun c => c hk),if_neg (by omega),Int.toNat_natCast]
 split
 ·rename_i h1
  exact ⟨readC_fine hn h1,rfl⟩
 ·rename_i h1
  split
  ·rename_i h2
   exfalso
   obtain ⟨g,hl⟩ := readC_good hk (n := n) (b := b) (by omega)
   have := rread_back hk g (by omega)
   rw [hl,h2] at this
   rw [this] at h
   cases h
  ·exact ⟨ok40,rfl⟩
end Go.Am.Ab
namespace Go.Am.Ab
open Go.Proofs
set_option maxHeartbeats 8000000
set_option maxRecDepth 4000
theorem rread_runs06 (k m : Nat) (hk : 1 ≤ k ∧ k ≤ 3) (b : List UInt8) (hn : m ≤ 256) (hb : b.length < 1000000) : R 6 [.d (.int .i64 k),B b,.d (.int .i64 m)] [] = RdR (rreadM k m b) := by
 have hc : k = 1 ∨ k = 2 ∨ k = 3 := by omega
 rcases hc with e | e | e
 ·exact rread1_runs k m e b hn hb
 ·exact rread2_runs k m e b hn hb
 ·exact rread3_runs k m e b hn hb
theorem rread_not (k : Nat) (hk : k < 256) (b : List UInt8) (n : Int) (h : ¬ (1 ≤ k ∧ k ≤ 3) ∨ n < 0 ∨ 256 < n) : R 6 [.d (.int .i64 k),B b,.d (.int .i64 n)] [] = RdR ([],false) := by
 unfold RdR
 by_cases h1 : k < 1
 ·have h1' : (k : Int) < 1 := by omega
  refine run_goal (rs := [.tmp 6,.tmp 7]) (ts := [29,4]) Tryz.func6 (c := _) rfl rfl rfl (by kernel_rfl) (by kernel_rfl) (.inl sp_6) (by simp [Tryz.f6]) ?_
  intro T hT
  simp -dsimp -implicitDefEqProofs (disch:=first|omega|assumption) [startSlots,Int.natCast_inj,wrap_i64,h1']
  simpa -dsimp -implicitDefEqProofs (disch:=first|omega|assumption) [Int.natCast_inj,wrap_i64] using hT
 have h1' : ¬ (k : Int) < 1 := by omega
 by_cases h2 : 3 < k
 ·have h2' : (3 : Int) < k := by omega
  refine run_goal (rs := [.tmp 6,.tmp 7]) (ts := [29,4]) Tryz.func6 (c := _) rfl rfl rfl (by kernel_rfl) (by kernel_rfl) (.inl sp_6) (by simp [Tryz.f6]) ?_
  intro T hT
  simp -dsimp -implicitDefEqProofs (disch:=first|omega|assumption) [startSlots,Int.natCast_inj,wrap_i64,h1',h2']
  simpa -dsimp -implicitDefEqProofs (disch:=first|omega|assumption) [Int.natCast_inj,wrap_i64] using hT
 have h2' : ¬ (3 : Int) < k := by omega
 by_cases h3 : n < 0
 ·refine run_goal (rs := [.tmp 6,.tmp 7]) (ts := [29,4]) Tryz.func6 (c := _) rfl rfl rfl (by kernel_rfl) (by kernel_rfl) (.inl sp_6) (by simp [Tryz.f6]) ?_
  intro T hT
  simp -dsimp -implicitDefEqProofs (disch:=first|omega|assumption) [startSlots,Int.natCast_inj,wrap_i64,h1',h2',h3]
  simpa -dsimp -implicitDefEqProofs (disch:=first|omega|assumption) [Int.natCast_inj,wrap_i64] using hT
 have h4 : 256 < n := by omega
 refine run_goal (rs := [.tmp 6,.tmp 7]) (ts := [29,4]) Tryz.func6 (c := _) rfl rfl rfl (by kernel_rfl) (by kernel_rfl) (.inl sp_6) (by simp [Tryz.f6]) ?_
 intro T hT
 simp -dsimp -implicitDefEqProofs (disch:=first|omega|assumption) [startSlots,Int.natCast_inj,wrap_i64,h1',h2',h3,h4]
 simpa -dsimp -implicitDefEqProofs (disch:=first|omega|assumption) [Int.natCast_inj,wrap_i64] using hT
theorem columnReads_runs (k : Nat) (hk : k < 256) (b : List UInt8) (hbl : b.length ≤ 9223372036854775807) (n : Int) (hn : isI64 n) : R 3 [.d (.int .u8 k),B b,.d (.int .i64 n)] [] = some ([.d (.bool true)],[]) := by
 have al := alive06
 have hki : IntKind.i64.wrap (k : Int) = k := wrap_i64 (by omega) (by omega)
 by_cases h2 : 20000 < b.length
 ·have h2' : (20000 : Int) < b.length := by omega
  refine run_goal (rs := [.tmp 6]) (ts := [4]) Tryz.func3 (c := _) rfl rfl rfl (by kernel_rfl) (by kernel_rfl) (.inl sp_3) (by simp [Tryz.f3]) ?_
  intro T hT
  simp -dsimp -implicitDefEqProofs (disch:=first|omega|assumption) [startSlots,Int.natCast_inj,wrap_i64,al,h2']
  simpa -dsimp -implicitDefEqProofs (disch:=first|omega|assumption) [Int.natCast_inj,wrap_i64] using hT
 have h2' : ¬ (20000 : Int) < b.length := by omega
 have hr := col_read_runs k hk b n hn (by omega)
 by_cases c1 : k < 1
 ·have c1' : (k : Int) < 1 := by omega
  have ht : readTop k b n = ([],10) := by unfold readTop; rw [if_pos (by omega)]
  rw [ht] at hr
  have hd := rread_not k hk b n (.inl (by omega))
  unfold RdR at hd
  refine run_goal (rs := [.tmp 6]) (ts := [4]) Tryz.func3 (c := _) rfl rfl rfl (by kernel_rfl) (by kernel_rfl) (.inl sp_3) (by simp [Tryz.f3]) ?_
  intro T hT
  simp -dsimp -implicitDefEqProofs (disch:=first|omega|assumption) [startSlots,Int.natCast_inj,wrap_i64,al,h2',hki,hr,hd,c1,c1']
  simpa -dsimp -implicitDefEqProofs (disch:=first|omega|assumption) [Int.natCast_inj,wrap_i64] using hT
 have c1' : ¬ (k : Int) < 1 := by omega
 by_cases c2 : 3 < k
 ·have c2' : (3 : Int) < k := by omega
  have ht : readTop k b n = ([],10) := by unfold readTop; rw [if_pos (by omega)]
  rw [ht] at hr
  have hd := rread_not k hk b n (.inl (by omega))
  unfold RdR at hd
  refine run_goal (rs := [.tmp 6]) (ts := [4]) Tryz.func3 (c := _) rfl rfl rfl (by kernel_rfl) (by kernel_rfl) (.inl sp_3) (by simp [Tryz.f3]) ?_
  intro T hT
  simp -dsimp -implicitDefEqProofs (disch:=first|omega|assumption) [startSlots,Int.natCast_inj,wrap_i64,al,h2',hki,hr,hd,c1,c1',c2,c2']
  simpa -dsimp -implicitDefEqProofs (disch:=first|omega|assumption) [Int.natCast_inj,wrap_i64] using hT
 have c2' : ¬ (3 : Int) < k := by omega
 have hk3 : 1 ≤ k ∧ k ≤ 3 := by omega
 by_cases c3 : n < 0
 ·have ht : readTop k b n = ([],1) := by unfold readTop; rw [if_neg (by omega),if_pos (.inl c3)]
  rw [ht] at hr
  have hd := rread_not k hk b n (.inr (.inl c3))
  unfold RdR at hd
  refine run_goal (rs := [.tmp 6]) (ts := [4]) Tryz.func3 (c := _) rfl rfl rfl (by kernel_rfl) (by kernel_rfl) (.inl sp_3) (by simp [Tryz.f3]) ?_
  intro T hT
  simp -dsimp -implicitDefEqProofs (disch:=first|omega|assumption) [startSlots,Int.natCast_inj,wrap_i64,al,h2',hki,hr,hd,c1,c1',c2,c2',c3]
  simpa -dsimp -implicitDefEqProofs (disch:=first|omega|assumption) [Int.natCast_inj,wrap_i64] using hT
 by_cases c4 : 256 < n
 ·have ht : readTop k b n = ([],1) := by unfold readTop; rw [if_neg (by omega),if_pos (.inr c4)]
  rw [ht] at hr
  have hd := rread_not k hk b n (.inr (.inr c4))
  unfold RdR at hd
  refine run_goal (rs := [.tmp 6]) (ts := [4]) Tryz.func3 (c := _) rfl rfl rfl (by kernel_rfl) (by kernel_rfl) (.inl sp_3) (by simp [Tryz.f3]) ?_
  intro T hT
  simp -dsimp -implicitDefEqProofs (disch:=first|omega|assumption) [startSlots,Int.natCast_inj,wrap_i64,al,h2',hki,hr,hd,c1,c1',c2,c2',c3,c4]
  simpa -dsimp -implicitDefEqProofs (disch:=first|omega|assumption) [Int.natCast_inj,wrap_i64] using hT
 obtain ⟨m,rfl⟩ : ∃ m : Nat,n = m := ⟨n.toNat,by omega⟩
 have hd := rread_runs06 k m hk3 b (by omega) (by omega)
 unfold RdR at hd
 cases hp : (rreadM k m b).2 with
 | true =>
  obtain ⟨l,g,hl,ht,hm⟩ := read_yes hk3 (by omega) hp
  rw [ht] at hr
  rw [hp,hm] at hd
  have hcs := cells_runs l (by omega)
  have hsr := sameRow_runs (l.map cellOf) (l.map cellOf) (by simp; omega)
  rw [decide_eq_true rfl] at hsr
  obtain ⟨vl,hvl⟩ : ∃ vl,vl = vs l := ⟨_,rfl⟩
  obtain ⟨cl,hcl⟩ : ∃ cl,cl = ce (l.map cellOf) := ⟨_,rfl⟩
  have hvll : vl.length = l.length := by rw [hvl]; simp
  have hcll : cl.length = l.length := by rw [hcl]; simp
  rw [List.length_map] at hd
  simp only at hr
  rw [← hvl] at hr hcs
  rw [← hcl] at hd hcs hsr
  clear hvl hcl
  refine run_goal (rs := [.tmp 6]) (ts := [4]) Tryz.func3 (c := _) rfl rfl rfl (by kernel_rfl) (by kernel_rfl) (.inl sp_3) (by simp [Tryz.f3]) ?_
  intro T hT
  simp -dsimp -implicitDefEqProofs (disch:=first|omega|assumption) [startSlots,Int.natCast_inj,wrap_i64,al,h2',hki,hr,hd,hcs,hsr,hvll,hcll,c1,c1',c2,c2',c3,c4]
  simpa -dsimp -implicitDefEqProofs (disch:=first|omega|assumption) [Int.natCast_inj,wrap_i64] using hT
 | false =>
  obtain ⟨he,hl⟩ := read_no hk3 (by omega) hp
  rw [hp] at hd
  rw [hl] at hr
  obtain ⟨e,hee⟩ : ∃ e,e = (readTop k b m).2 := ⟨_,rfl⟩
  rw [← hee] at hr he
  obtain ⟨cl,hcl⟩ : ∃ cl,cl = (rreadM k m b).1 := ⟨_,rfl⟩
  rw [← hcl] at hd
  clear hcl hee hl
  unfold okE at he
  rcases he with rfl | rfl | rfl | rfl | rfl
  all_goals
   refine run_goal (rs := [.tmp 6]) (ts := [4]) Tryz.func3 (c := _) rfl rfl rfl (by kernel_rfl) (by kernel_rfl) (.inl sp_3) (by simp [Tryz.f3]) ?_
   intro T hT
   simp -dsimp -implicitDefEqProofs (disch:=first|omega|assumption) [startSlots,Int.natCast_inj,wrap_i64,al,h2',hki,hr,hd,c1,c1',c2,c2',c3,c4]
   simpa -dsimp -implicitDefEqProofs (disch:=first|omega|assumption) [Int.natCast_inj,wrap_i64] using hT
end Go.Am.Ab
