/- The row of law MoveGoes of chapter 23 holds, for every input that the row names (part 9). Conditions: none. A program joined it out of texts of this work; the words (namespaces YtiibjehnlphabaaW..) and the functions named X.f with their contracts X.calls were first written by the print tool of the kit, the functions in a copy of it that takes given contracts; what the theorem does not use is struck. -/
import Derived.WalkKit
import Derived.Deep.QuietTactic
import Derived.BigQuiet
import Derived.Deep.RegionHeld3
import Derived.IntWalk
import Derived.Lib.SlBytesConst
import Derived.Lib.SmallJoins
import Derived.Test.YtiibjehnlphabaaRows
import Derived.ProofKit
import Derived.OpenShut
import Derived.ShutString
import Derived.ChangeOld
import Derived.Below
import Derived.SizedLaws
import Derived.Test.YtiibjehnlphabaaMoveGoes8
section
namespace Go.Proofs.Ytiibjehnlphabaa
set_option linter.unusedVariables false
set_option linter.unusedSimpArgs false
theorem wordP_begins {l : List Int} {i : Nat} {st : Bool} (hb : begins l i = true) : begins l (word l i st) = true := by
  rw [word_eq]
  exact whileOn_begins (word0_begins hb)
theorem wordsN_begins {l : List Int} {op : Bool} : ∀ {n i : Nat}, begins l i = true → begins l (wordsN l op n i) = true
  | 0, i, h => h
  | n + 1, i, h => by
    simp only [wordsN]
    split
    · exact wordsN_begins (wordP_begins h)
    · exact h
theorem endsN_spec {l : List Int} : ∀ {n i q : Nat}, begins l i = true → endsN l n i = some q → begins l q = true ∧ (1 ≤ n → q < l.length ∧ kls l q ≠ 0)
  | 0, i, q, hb, h => by
    simp only [endsN] at h
    cases h
    exact ⟨hb, fun h => by omega⟩
  | n + 1, i, q, hb, h => by
    simp only [endsN] at h
    split at h
    · rename_i hi
      split at h
      · rename_i hj
        have hjb : begins l (run l (on l i) 0) = true := whileOn_begins (begins_on hb hi)
        have hjs := whileOn_stop (p := fun j => decide (kls l j = 0)) (l := l) _ (on l i) (Nat.le_refl _)
        change ¬ (run l (on l i) 0 < l.length ∧ _) at hjs
        have hjk : kls l (run l (on l i) 0) ≠ 0 := fun h0 => hjs ⟨hj, by change decide (kls l (run l (on l i) 0) = 0) = true; rw [h0]; rfl⟩
        generalize run l (on l i) 0 = j at *
        have ht := run_own hj
        have htb : begins l (run l j (kls l j)) = true := whileOn_begins hjb
        have hg := on_gt hj
        obtain ⟨t1, t2, t3, t4⟩ := prev_ge hjb htb (by omega)
        have hk : kls l (run l j (kls l j) - lastSz l (run l j (kls l j))) = kls l j := by
          simpa using whileOn_all (p := fun x => decide (kls l x = kls l j)) hjb _ t3 t1 t2
        obtain ⟨r1, r2⟩ := endsN_spec t3 h
        refine ⟨r1, fun _ => ?_⟩
        cases n with
        | zero =>
          simp only [endsN] at h
          cases h
          exact ⟨by omega, by rw [hk]; exact hjk⟩
        | succ n => exact r2 (by omega)
      · cases h
    · cases h
theorem backOn_spec {p : Nat → Bool} {l : List Int} (Q : Nat → Prop) (hst : ∀ j, Q j → 0 < j → begins l j = true → p j = true → Q (j - lastSz l j)) : ∀ (n x : Nat), x ≤ n → begins l x = true → Q x → begins l (backOn p l x) = true ∧ Q (backOn p l x) ∧ ¬ (0 < backOn p l x ∧ p (backOn p l x) = true)
  | 0, x, hn, hx, hq => by
    rw [backOn_eq _ _ (begins_le hx), if_neg (by omega)]
    exact ⟨hx, hq, by omega⟩
  | n + 1, x, hn, hx, hq => by
    rw [backOn_eq _ _ (begins_le hx)]
    split
    · rename_i h
      obtain ⟨h1, h2, h3, h4⟩ := last_inv hx h.1
      exact backOn_spec Q hst n _ (by omega) h1 (hst x hq h.1 hx h.2)
    · rename_i h
      exact ⟨hx, hq, h⟩
theorem back_spec {l : List Int} {i : Nat} (hb : begins l i = true) (h0 : 0 < i) : begins l (back l i) = true ∧ (back l i = 0 ∨ kls l (back l i) ≠ 0) := by
  obtain ⟨h1, h2, h3, h4⟩ := last_inv hb h0
  have a := backOn_spec (p := blankB l) (l := l) (fun _ => True) (fun _ _ _ _ _ => trivial) _ (i - lastSz l i) (Nat.le_refl _) h1 trivial
  change begins l (back0 l i) = true ∧ True ∧ ¬ (0 < back0 l i ∧ blankB l (back0 l i) = true) at a
  rw [back_eq l (begins_le hb)]
  split
  · rename_i hk
    have c := backOn_spec (p := sameB l (kls l (back0 l i))) (l := l) (fun x => kls l x = kls l (back0 l i)) (fun j hj _ _ hp => by unfold sameB at hp; simpa using hp) _ (back0 l i) (Nat.le_refl _) a.1 rfl
    exact ⟨c.1, .inr (by rw [c.2.1]; exact hk)⟩
  · rename_i hk
    refine ⟨a.1, ?_⟩
    rcases Nat.eq_zero_or_pos (back0 l i) with h | h
    · exact .inl h
    · exact absurd ⟨h, by unfold blankB; simp only [decide_eq_true_eq]; simpa using hk⟩ a.2.2
theorem emptyDown_begins {l : List Int} : ∀ {f i : Nat}, begins l i = true → (i < l.length → l.getD i 0 = 10) → begins l (emptyDown l f i) = true
  | 0, i, hb, h => hb
  | f + 1, i, hb, h => by
    simp only [emptyDown]
    split
    · rename_i hi
      have h1 := begins_behind hi (by rw [h hi]; decide)
      split
      · exact h1
      · exact emptyDown_begins (fin_begins (by omega)) (fun hlt => fin_nl hlt)
    · exact hb
theorem paraN_begins {l : List Int} : ∀ {n i : Nat}, begins l i = true → begins l (paraN l n i) = true
  | 0, i, hb => hb
  | n + 1, i, hb => by
    simp only [paraN]
    split
    · exact paraN_begins (emptyDown_begins (fin_begins (begins_le hb)) (fun hlt => fin_nl hlt))
    · exact hb
section
variable {l : List Int} {i : Nat} (hb : begins l i = true) (hr : rest l i = i) (a : List Int) (c : Int) (op : Bool)
include hb
end
end Go.Proofs.Ytiibjehnlphabaa

end

section
namespace Go.Proofs.Ytiibjehnlphabaa
open Go.RowKit Go.Proofs.YtiibjehnlphabaaW.PrintWords Go.Proofs.YtiibjehnlphabaaW.PrintMore Q
set_option linter.unusedVariables false
set_option linter.unusedSimpArgs false
def lnT : Option Nat → Int × Bool
  | some p => ((p : Int), true)
  | none => (0, false)
theorem rbelowL_ev {l : List Int} (ok : OkL l) : ∀ (m i : Nat) (j n : Int), i ≤ l.length → j + m = n → n ≤ 9223372036854775807 → 0 ≤ j → Ev (fun k => Z_below.l0 k l (i : Int) n j) (lnT (below l m i))
  | 0, i, j, n, hi, hj, hn, h0 => by
    refine Ev.step (fun k => rfl) ?_
    simp only [Z_below.l0]
    exact Ev.neg (by omega) (Ev.bind (rstart_ev ok hi) (Ev.is (Ev.now _) rfl))
  | m + 1, i, j, n, hi, hj, hn, h0 => by
    have hsz := ok.size
    have hf := fin_le hi
    refine Ev.step (fun k => rfl) ?_
    simp only [Z_below.l0, below]
    refine Ev.pos (by omega) (Ev.bind (rend_ev ok hi) ?_)
    by_cases h : fin l i < l.length
    · rw [if_pos h]
      refine Ev.neg (by omega) ?_
      rw [w64 (n := (fin l i : Int) + 1) (by omega) (by omega), w64 (n := j + 1) (by omega) (by omega)]
      have := rbelowL_ev ok m (fin l i + 1) (j + 1) n h (by omega) hn (by omega)
      rwa [show ((fin l i + 1 : Nat) : Int) = (fin l i : Int) + 1 by omega] at this
    · rw [if_neg h]
      exact Ev.pos (by omega) (Ev.is (Ev.now _) rfl)
theorem rbelow_ev {l : List Int} (ok : OkL l) {i : Nat} (hi : i ≤ l.length) (n : Nat) (hn : (n : Int) ≤ 9223372036854775807) : Ev (fun k => Z_below.f k l (i : Int) (n : Int)) (lnT (below l n i)) := by
  simp only [Z_below.f]
  exact rbelowL_ev ok n i 0 n hi (by omega) hn (Int.le_refl _)
theorem raboveL_ev {l : List Int} (ok : OkL l) : ∀ (m i : Nat) (j n : Int), i ≤ l.length → j + m = n → n ≤ 9223372036854775807 → 0 ≤ j → Ev (fun k => Z_above.l0 k l (i : Int) n j) (lnT (aboveN l m (start l i)))
  | 0, i, j, n, hi, hj, hn, h0 => by
    refine Ev.step (fun k => rfl) ?_
    simp only [Z_above.l0]
    exact Ev.neg (by omega) (Ev.bind (rstart_ev ok hi) (Ev.is (Ev.now _) rfl))
  | m + 1, i, j, n, hi, hj, hn, h0 => by
    have hsz := ok.size
    have hs := start_le l i
    refine Ev.step (fun k => rfl) ?_
    simp only [Z_above.l0, aboveN]
    refine Ev.pos (by omega) (Ev.bind (rstart_ev ok hi) ?_)
    by_cases h : 0 < start l i
    · rw [if_pos h]
      refine Ev.neg (by omega) ?_
      rw [w64 (n := (start l i : Int) - 1) (by omega) (by omega), w64 (n := j + 1) (by omega) (by omega)]
      have := raboveL_ev ok m (start l i - 1) (j + 1) n (by omega) (by omega) hn (by omega)
      rwa [show ((start l i - 1 : Nat) : Int) = (start l i : Int) - 1 by omega] at this
    · rw [if_neg h]
      exact Ev.pos (by omega) (Ev.is (Ev.now _) rfl)
theorem rabove_ev {l : List Int} (ok : OkL l) {i : Nat} (hi : i ≤ l.length) (n : Nat) (hn : (n : Int) ≤ 9223372036854775807) : Ev (fun k => Z_above.f k l (i : Int) (n : Int)) (lnT (above l n i)) := by
  simp only [Z_above.f]
  exact raboveL_ev ok n i 0 n hi (by omega) hn (Int.le_refl _)
theorem below_one {l : List Int} (p : Nat) : below l 1 p = if fin l p < l.length then some (fin l p + 1) else none := by
  simp only [below]
  split
  · rename_i h
    rw [isStart_self (isStart_next h)]
  · rfl
theorem rnumL_ev {l : List Int} (ok : OkL l) {n : Int} (h1 : 1 ≤ n) (hn : n ≤ 9223372036854775807) : ∀ (m p : Nat) (i : Int), p ≤ l.length → i + m = n → 1 ≤ i → Ev (fun k => Z_lineNumber.l0 k l n (p : Int) i) (lineN l m p : Int)
  | 0, p, i, hp, hi, h0 => by
    refine Ev.step (fun k => rfl) ?_
    simp only [Z_lineNumber.l0]
    refine Ev.neg (by omega) (Ev.step (fun k => rfl) ?_)
    simp only [Z_lineNumber.j1]
    exact Ev.neg (by simp; omega) (Ev.is (Ev.now _) rfl)
  | m + 1, p, i, hp, hi, h0 => by
    have hsz := ok.size
    refine Ev.step (fun k => rfl) ?_
    simp only [Z_lineNumber.l0]
    refine Ev.neg (by omega) (Ev.step (fun k => rfl) ?_)
    simp only [Z_lineNumber.j1, lineN]
    refine Ev.pos (by simp; omega) (Ev.bind (rbelow_ev ok hp 1 (by omega)) ?_)
    rw [below_one]
    by_cases h : fin l p < l.length
    · rw [if_pos h, if_pos h]
      refine Ev.pos rfl ?_
      simp only [lnT]
      rw [w64 (n := i + 1) (by omega) (by omega)]
      exact rnumL_ev ok h1 hn m (fin l p + 1) (i + 1) h (by omega) (by omega)
    · rw [if_neg h, if_neg h]
      exact Ev.neg (by simp [lnT]) (Ev.now _)
theorem rnumAll_ev {l : List Int} (ok : OkL l) {n : Int} (h1 : n < 1) : ∀ (m p : Nat) (i : Int), l.length - p ≤ m → isStart l p → 1 ≤ i → i ≤ p + 1 → Ev (fun k => Z_lineNumber.l0 k l n (p : Int) i) (start l l.length : Int) := by
  intro m
  have hsz := ok.size
  induction m with
  | zero =>
    intro p i hm hs h0 hi
    have hp := hs.1
    have hf := fin_le hp
    refine Ev.step (fun k => rfl) ?_
    simp only [Z_lineNumber.l0]
    refine Ev.pos h1 (Ev.step (fun k => rfl) ?_)
    simp only [Z_lineNumber.j1]
    refine Ev.pos trivial (Ev.bind (rbelow_ev ok hp 1 (by omega)) ?_)
    rw [below_one, if_neg (by omega)]
    refine Ev.neg (by simp [lnT]) (Ev.is (Ev.now _) ?_)
    have e := (same_line (q := p) (p := l.length) hp (by rw [isStart_self hs]; exact hp) (by omega)).1
    rw [isStart_self hs] at e
    rw [e]
  | succ m ih =>
    intro p i hm hs h0 hi
    have hp := hs.1
    have hf := fin_le hp
    refine Ev.step (fun k => rfl) ?_
    simp only [Z_lineNumber.l0]
    refine Ev.pos h1 (Ev.step (fun k => rfl) ?_)
    simp only [Z_lineNumber.j1]
    refine Ev.pos trivial (Ev.bind (rbelow_ev ok hp 1 (by omega)) ?_)
    rw [below_one]
    by_cases h : fin l p < l.length
    · rw [if_pos h]
      refine Ev.pos rfl ?_
      simp only [lnT]
      rw [w64 (n := i + 1) (by omega) (by omega)]
      exact ih (fin l p + 1) (i + 1) (by omega) (isStart_next h) (by omega) (by omega)
    · rw [if_neg h]
      refine Ev.neg (by simp [lnT]) (Ev.is (Ev.now _) ?_)
      have e := (same_line (q := p) (p := l.length) hp (by rw [isStart_self hs]; exact hp) (by omega)).1
      rw [isStart_self hs] at e
      rw [e]
def numN (l : List Int) (n : Int) : Nat := if n < 1 then start l l.length else lineN l (n.toNat - 1) 0
theorem rnum_ev {l : List Int} (ok : OkL l) {n : Int} (hn : n ≤ 9223372036854775807) : Ev (fun k => Z_lineNumber.f k l n) (numN l n : Int) := by
  simp only [Z_lineNumber.f, numN]
  by_cases h : n < 1
  · rw [if_pos h]
    exact rnumAll_ev ok h _ 0 1 (Nat.le_refl _) ⟨Nat.zero_le _, .inl rfl⟩ (Int.le_refl _) (by omega)
  · rw [if_neg h]
    exact rnumL_ev ok (by omega) hn (n.toNat - 1) 0 1 (Nat.zero_le _) (by omega) (Int.le_refl _)
theorem numN_start (l : List Int) (n : Int) : isStart l (numN l n) := by
  unfold numN
  split
  · exact isStart_start (Nat.le_refl _)
  · exact (lineN_nl (s := 0) ⟨Nat.zero_le _, .inl rfl⟩).1
theorem first_num (l : List Int) (n : Int) : first l (numN l n) = first l (if n < 1 then l.length else lineN l (n.toNat - 1) 0) := by
  unfold numN
  split
  · have hsle := start_le l l.length
    have := same_line (q := l.length) (p := start l l.length) (Nat.le_refl _) (Nat.le_refl _) (by have := fin_le (Nat.le_refl l.length); omega)
    exact first_same this.1 this.2
  · rfl
theorem rFirstB {l : List Int} (ok : OkL l) {i : Nat} (hb : begins l i = true) : Ev (fun k => Z_First.f k l (i : Int)) (first l i : Int) := by
  have := rFirst_ev ok (i : Int)
  rwa [place_self hb] at this
theorem rRestB {l : List Int} (ok : OkL l) {i : Nat} (hb : begins l i = true) : Ev (fun k => Z_Rest.f k l (i : Int)) (rest l i : Int) := by
  have := rRest_ev ok (i : Int)
  rwa [place_self hb] at this
theorem rColumnB {l : List Int} (ok : OkL l) {i : Nat} (hb : begins l i = true) : Ev (fun k => Z_Column.f k l (i : Int)) (column l i : Int) := by
  have := rColumn_ev ok (i : Int)
  rwa [place_self hb] at this
theorem rPlaceB {l : List Int} (ok : OkL l) {i : Nat} (hb : begins l i = true) (q : Nat) (hq : (q : Int) ≤ 9223372036854775807) : Ev (fun k => Z_Place.f k l (i : Int) (q : Int)) (colAt l i q : Int) := by
  have := rPlace_ev ok (i : Int) (q : Int) hq
  rwa [place_self hb, show ((q : Int)).toNat = q by omega] at this
theorem times_le (c : Int) : (times c : Int) ≤ 9223372036854775807 ↔ c ≤ 9223372036854775807 := by unfold times; omega
def Ans (g : Nat → Option (Int × Bool × Bool × Bool)) (o : Option Gl) : Prop := ∃ t, Ev g t ∧ ((∃ u, o = some u ∧ t = goT (some u)) ∨ (o = none ∧ t.2.2.2 = false))
theorem Ans.of {g : Nat → Option (Int × Bool × Bool × Bool)} {o : Option Gl} (h : Ev g (goT o)) : Ans g o := by
  refine ⟨_, h, ?_⟩
  cases o with
  | none => exact .inr ⟨rfl, rfl⟩
  | some u => exact .inl ⟨u, rfl, rfl⟩
section
variable {l : List Int} (ok : OkL l) {i : Nat} (hb : begins l i = true) (key : ByteArray) (a : List Int) (c : Int) (hc2 : c ≤ 9223372036854775807) (op : Bool)
include ok hb
theorem rlines_j1 (o : Option Nat) (ho : ∀ p, o = some p → begins l p = true) : Ev (fun k => Z_lines.j1 k l (i : Int) (lnT o).1 (lnT o).2) (goT (o.map fun p => byLn (rest l (colAt l p (column l i))))) := by
  have hi := begins_le hb
  have hsz := ok.size
  have hcl := column_le l hi
  refine Ev.step (fun k => rfl) ?_
  simp only [Z_lines.j1]
  cases o with
  | none => exact Ev.neg (by simp [lnT]) (Ev.is (Ev.now _) rfl)
  | some p =>
    have hp := ho p rfl
    refine Ev.pos rfl (Ev.bind (rColumnB ok hb) (Ev.bind (rPlaceB ok hp (column l i) (by omega)) (Ev.bind (rRestB ok (colAt_spec (begins_le hp)).1) (Ev.is (Ev.now _) rfl))))
include hc2
theorem rlines_j (hk : key.toList = [106]) : Ev (fun k => Z_lines.f k l (i : Int) key a c (times c : Int)) (goT (motion l i key.toList a c op)) := by
  have hi := begins_le hb
  have ht := (times_le c).2 hc2
  rw [hk, motion_j]
  simp only [Z_lines.f]
  refine Ev.pos hk (Ev.step (fun k => rfl) ?_)
  simp only [Z_lines.j0]
  refine Ev.pos (by rw [hk]; rfl) (Ev.bind (rbelow_ev ok hi (times c) ht) (Ev.neg (by rw [hk]; decide) ?_))
  exact rlines_j1 ok hb _ (fun p h => below_begins hi h)
theorem rlines_k (hk : key.toList = [107]) : Ev (fun k => Z_lines.f k l (i : Int) key a c (times c : Int)) (goT (motion l i key.toList a c op)) := by
  have hi := begins_le hb
  have ht := (times_le c).2 hc2
  rw [hk, motion_k]
  simp only [Z_lines.f]
  refine Ev.neg (by rw [hk]; decide) (Ev.step (fun k => rfl) ?_)
  simp only [Z_lines.j0]
  refine Ev.pos (by rw [hk]; rfl) (Ev.bind (rbelow_ev ok hi (times c) ht) (Ev.pos hk (Ev.bind (rabove_ev ok hi (times c) ht) ?_)))
  exact rlines_j1 ok hb _ (fun p h => above_begins hi h)
omit hb in
theorem rlines_G (hk : key.toList = [71]) : Ev (fun k => Z_lines.f k l (i : Int) key a c (times c : Int)) (goT (motion l i key.toList a c op)) := by
  rw [hk, motion_G]
  simp only [Z_lines.f]
  refine Ev.neg (by rw [hk]; decide) (Ev.step (fun k => rfl) ?_)
  simp only [Z_lines.j0]
  refine Ev.neg (by rw [hk]; decide) (Ev.pos hk (Ev.bind (rnum_ev ok hc2) (Ev.bind (rFirstB ok (start_begins' (numN_start l c))) (Ev.is (Ev.now _) ?_))))
  rw [first_num]
  rfl
omit hb in
theorem rlines_gg (hk : key.toList = [103, 103]) : Ev (fun k => Z_lines.f k l (i : Int) key a c (times c : Int)) (goT (motion l i key.toList a c op)) := by
  have ht := (times_le c).2 hc2
  rw [hk, motion_gg]
  simp only [Z_lines.f]
  refine Ev.neg (by rw [hk]; decide) (Ev.step (fun k => rfl) ?_)
  simp only [Z_lines.j0]
  refine Ev.neg (by rw [hk]; decide) (Ev.neg (by rw [hk]; decide) (Ev.pos hk (Ev.bind (rnum_ev ok ht) (Ev.bind (rFirstB ok (start_begins' (numN_start l _))) (Ev.is (Ev.now _) ?_)))))
  have e : numN l (times c : Int) = lineN l (c.toNat - 1) 0 := by
    have := times_pos c
    unfold numN
    rw [if_neg (by omega)]
    congr 1
    unfold times
    omega
  rw [e]
  rfl
theorem rlines_dollar (hk : key.toList = [36]) : Ev (fun k => Z_lines.f k l (i : Int) key a c (times c : Int)) (goT (motion l i key.toList a c op)) := by
  have hi := begins_le hb
  have ht := (times_le c).2 hc2
  have hp := times_pos c
  rw [hk, motion_dollar]
  simp only [Z_lines.f]
  refine Ev.neg (by rw [hk]; decide) (Ev.step (fun k => rfl) ?_)
  simp only [Z_lines.j0]
  refine Ev.neg (by rw [hk]; decide) (Ev.neg (by rw [hk]; decide) (Ev.neg (by rw [hk]; decide) ?_))
  rw [w64 (n := (times c : Int) - 1) (by omega) (by omega), show (times c : Int) - 1 = ((times c - 1 : Nat) : Int) by omega]
  refine Ev.bind (rbelow_ev ok hi (times c - 1) (by omega)) ?_
  cases hB : below l (times c - 1) i with
  | none => exact Ev.neg (by simp [lnT]) (Ev.is (Ev.now _) rfl)
  | some p =>
    have hpl := below_le hB hi
    exact Ev.pos rfl (Ev.bind (rend_ev ok hpl) (Ev.bind (rRestB ok (fin_begins hpl)) (Ev.is (Ev.now _) rfl)))
end

section
variable {l : List Int} (ok : OkL l)
include ok
theorem rword1_ev (i : Nat) (st : Bool) : ∀ (n p : Nat), l.length - p ≤ n → p ≤ l.length → Ev (fun k => Z_word.l1 k l (i : Int) st (p : Int)) (whileOn (wordP l i st) l p : Int) := by
  have hsz := ok.size
  intro n
  induction n with
  | zero =>
    intro p hn hp
    rw [whileOn_neg (by omega)]
    refine Ev.step (fun k => rfl) ?_
    simp only [Z_word.l1]
    refine Ev.neg (by omega) (Ev.step (fun k => rfl) ?_)
    simp only [Z_word.j3]
    exact Ev.neg (by simp) (Ev.now _)
  | succ n ih =>
    intro p hn hp
    refine Ev.step (fun k => rfl) ?_
    simp only [Z_word.l1]
    by_cases hlt : p < l.length
    · have hg := on_gt hlt
      have hon : (p : Int) + (sz l p : Int) = ((on l p : Nat) : Int) := by unfold on; omega
      have next : wordP l i st p = true → Ev (fun k => Z_word.l1 k l (i : Int) st (wrap64 ((p : Int) + (sz l p : Int)))) (whileOn (wordP l i st) l p : Int) := fun h => by
        rw [whileOn_pos hlt h, w64 (by omega) (by omega), hon]
        exact ih (on l p) (by omega) hg.2.1
      refine Ev.pos (by omega) (Ev.bind (rkls_ev ok p) (Ev.step (fun k => rfl) ?_))
      simp only [Z_word.j3]
      by_cases h0 : kls l p = 0
      · refine Ev.pos (by rw [h0]; rfl) ?_
        by_cases hs : st = true
        · refine Ev.pos hs ?_
          by_cases hip : i < p
          · refine Ev.pos (by omega) (Ev.pos (by omega) (Ev.pos (by omega) ?_))
            rw [rd_nat]
            by_cases h10 : l.getD p 0 = 10
            · refine Ev.pos h10 (Ev.is (Ev.now _) ?_)
              rw [whileOn_neg (by unfold wordP; rw [hs, h10]; simp [hip])]
            · exact Ev.neg h10 (Ev.bind (rsize_ev ok p) (next (by unfold wordP; rw [decide_eq_false h10]; simp [h0])))
          · exact Ev.neg (by omega) (Ev.bind (rsize_ev ok p) (next (by unfold wordP; simp [h0, hip])))
        · exact Ev.neg hs (Ev.bind (rsize_ev ok p) (next (by unfold wordP; simp [h0, hs])))
      · refine Ev.neg (by simp [h0]) (Ev.is (Ev.now _) ?_)
        rw [whileOn_neg (by unfold wordP; simp [h0])]
    · rw [whileOn_neg (by omega)]
      refine Ev.neg (by omega) (Ev.step (fun k => rfl) ?_)
      simp only [Z_word.j3]
      exact Ev.neg (by simp) (Ev.now _)
theorem rword0_ev (i : Nat) (st : Bool) {c : Int} (hc : c ≠ 0) : ∀ (n p : Nat), l.length - p ≤ n → p ≤ l.length → Ev (fun k => Z_word.l0 k l (i : Int) st (p : Int) c) (whileOn (wordP l i st) l (run l p c) : Int) := by
  have hsz := ok.size
  intro n
  induction n with
  | zero =>
    intro p hn hp
    rw [run_neg (by omega)]
    refine Ev.step (fun k => rfl) ?_
    simp only [Z_word.l0]
    refine Ev.neg hc (Ev.neg (by omega) (Ev.step (fun k => rfl) ?_))
    simp only [Z_word.j1]
    exact rword1_ev ok i st _ p (Nat.le_refl _) hp
  | succ n ih =>
    intro p hn hp
    refine Ev.step (fun k => rfl) ?_
    simp only [Z_word.l0]
    refine Ev.neg hc ?_
    have stop : run l p c = p → Ev (fun k => Z_word.j1 k l (i : Int) st (p : Int)) (whileOn (wordP l i st) l (run l p c) : Int) := fun e => by
      rw [e]
      refine Ev.step (fun k => rfl) ?_
      simp only [Z_word.j1]
      exact rword1_ev ok i st _ p (Nat.le_refl _) hp
    by_cases hlt : p < l.length
    · have hg := on_gt hlt
      refine Ev.pos (by omega) (Ev.bind (rkls_ev ok p) ?_)
      by_cases hk : kls l p = c
      · refine Ev.pos hk (Ev.bind (rsize_ev ok p) ?_)
        have hon : (p : Int) + (sz l p : Int) = ((on l p : Nat) : Int) := by unfold on; omega
        rw [run_pos hlt hk, w64 (by omega) (by omega), hon]
        exact ih (on l p) (by omega) hg.2.1
      · exact Ev.neg hk (stop (run_neg (fun h => hk h.2)))
    · exact Ev.neg (by omega) (stop (run_neg (fun h => hlt h.1)))
theorem rword_ev {i : Nat} (hi : i ≤ l.length) (st : Bool) : Ev (fun k => Z_word.f k l (i : Int) st) (word l i st : Int) := by
  simp only [Z_word.f]
  refine Ev.bind (rkls_ev ok i) ?_
  rw [word_eq]
  unfold word0
  by_cases hk : kls l i = 0
  · rw [if_neg (by simp [hk]), hk]
    refine Ev.step (fun k => rfl) ?_
    simp only [Z_word.l0]
    refine Ev.pos trivial (Ev.step (fun k => rfl) ?_)
    simp only [Z_word.j1]
    exact rword1_ev ok i st _ i (Nat.le_refl _) hi
  · rw [if_pos hk]
    exact rword0_ev ok i st hk _ i (Nat.le_refl _) hi
def ends1 (l : List Int) (i : Nat) : Option Nat :=
  if i < l.length then
    (if run l (on l i) 0 < l.length then some (run l (run l (on l i) 0) (kls l (run l (on l i) 0)) - lastSz l (run l (run l (on l i) 0) (kls l (run l (on l i) 0)))) else none)
  else none
theorem rends1_ev {c : Int} : ∀ (n p : Nat), l.length - p ≤ n → begins l p = true → p < l.length → kls l p = c → Ev (fun k => Z_ends.l1 k l (p : Int) c) (((run l p c - lastSz l (run l p c) : Nat) : Int), true) := by
  have hsz := ok.size
  intro n
  induction n with
  | zero => intro p hn hb hp hk; omega
  | succ n ih =>
    intro p hn hb hp hk
    have hg := on_gt hp
    have hon : (p : Int) + (sz l p : Int) = ((on l p : Nat) : Int) := by unfold on; omega
    have stop : run l p c = on l p → (((p : Nat) : Int), true) = (((run l p c - lastSz l (run l p c) : Nat) : Int), true) := fun e => by
      rw [e, on_inv hb hp]
    refine Ev.step (fun k => rfl) ?_
    simp only [Z_ends.l1]
    refine Ev.bind (rsize_ev ok p) ?_
    rw [w64 (n := (p : Int) + (sz l p : Int)) (by omega) (by omega), hon]
    by_cases h1 : on l p < l.length
    · refine Ev.pos (by omega) (Ev.bind (rsize_ev ok p) ?_)
      rw [w64 (n := (p : Int) + (sz l p : Int)) (by omega) (by omega), hon]
      refine Ev.bind (rkls_ev ok (on l p)) ?_
      by_cases h2 : kls l (on l p) = c
      · refine Ev.pos h2 (Ev.bind (rsize_ev ok p) ?_)
        rw [w64 (n := (p : Int) + (sz l p : Int)) (by omega) (by omega), hon, run_pos hp hk]
        exact ih (on l p) (by omega) (begins_on hb hp) h1 h2
      · refine Ev.neg h2 (Ev.is (Ev.now _) (stop ?_))
        rw [run_pos hp hk, run_neg (fun h => h2 h.2)]
    · refine Ev.neg (by omega) (Ev.is (Ev.now _) (stop ?_))
      rw [run_pos hp hk, run_neg (fun h => h1 h.1)]
theorem rendsj_ev {p : Nat} (hb : begins l p = true) : Ev (fun k => Z_ends.j1 k l (p : Int)) (lnT (if p < l.length then some (run l p (kls l p) - lastSz l (run l p (kls l p))) else none)) := by
  refine Ev.step (fun k => rfl) ?_
  simp only [Z_ends.j1]
  by_cases h : p < l.length
  · rw [if_pos h]
    exact Ev.neg (by omega) (Ev.bind (rkls_ev ok p) (rends1_ev ok _ p (Nat.le_refl _) hb h rfl))
  · rw [if_neg h]
    exact Ev.pos (by omega) (Ev.is (Ev.now _) rfl)
theorem rends0_ev : ∀ (n p : Nat), l.length - p ≤ n → begins l p = true → Ev (fun k => Z_ends.l0 k l (p : Int)) (lnT (if run l p 0 < l.length then some (run l (run l p 0) (kls l (run l p 0)) - lastSz l (run l (run l p 0) (kls l (run l p 0)))) else none)) := by
  have hsz := ok.size
  intro n
  induction n with
  | zero =>
    intro p hn hb
    have := begins_le hb
    rw [run_neg (by omega)]
    refine Ev.step (fun k => rfl) ?_
    simp only [Z_ends.l0]
    exact Ev.neg (by omega) (rendsj_ev ok hb)
  | succ n ih =>
    intro p hn hb
    refine Ev.step (fun k => rfl) ?_
    simp only [Z_ends.l0]
    by_cases hp : p < l.length
    · have hg := on_gt hp
      have hon : (p : Int) + (sz l p : Int) = ((on l p : Nat) : Int) := by unfold on; omega
      refine Ev.pos (by omega) (Ev.bind (rkls_ev ok p) ?_)
      by_cases h0 : kls l p = 0
      · refine Ev.pos h0 (Ev.bind (rsize_ev ok p) ?_)
        rw [w64 (n := (p : Int) + (sz l p : Int)) (by omega) (by omega), hon, run_pos hp h0]
        exact ih (on l p) (by omega) (begins_on hb hp)
      · rw [run_neg (fun h => h0 h.2)]
        exact Ev.neg h0 (rendsj_ev ok hb)
    · rw [run_neg (fun h => hp h.1)]
      exact Ev.neg (by omega) (rendsj_ev ok hb)
theorem rends_ev {i : Nat} (hb : begins l i = true) : Ev (fun k => Z_ends.f k l (i : Int)) (lnT (ends1 l i)) := by
  have hsz := ok.size
  simp only [Z_ends.f, ends1]
  by_cases h : i < l.length
  · have hg := on_gt h
    rw [if_pos h]
    refine Ev.neg (by omega) (Ev.bind (rsize_ev ok i) ?_)
    rw [w64 (n := (i : Int) + (sz l i : Int)) (by unfold on at hg; omega) (by unfold on at hg; omega), show (i : Int) + (sz l i : Int) = ((on l i : Nat) : Int) by unfold on; omega]
    exact rends0_ev ok _ (on l i) (Nat.le_refl _) (begins_on hb h)
  · rw [if_neg h]
    exact Ev.pos (by omega) (Ev.is (Ev.now _) rfl)
omit ok in
theorem endsN_one (n i : Nat) : endsN l (n + 1) i = (ends1 l i).bind (endsN l n) := by
  simp only [endsN, ends1]
  split
  · split
    · rfl
    · rfl
  · rfl
theorem rback1_ev {c : Int} (hc : c ≠ 0) : ∀ (n p : Nat), p ≤ n → p ≤ l.length → Ev (fun k => Z_back.l1 k l (p : Int) c) (backOn (sameB l c) l p : Int) := by
  have hsz := ok.size
  intro n
  induction n with
  | zero =>
    intro p hn hp
    rw [backOn_eq _ _ hp, if_neg (by omega)]
    refine Ev.step (fun k => rfl) ?_
    simp only [Z_back.l1]
    exact Ev.neg hc (Ev.neg (by omega) (Ev.now _))
  | succ n ih =>
    intro p hn hp
    refine Ev.step (fun k => rfl) ?_
    simp only [Z_back.l1]
    refine Ev.neg hc ?_
    rw [backOn_eq _ _ hp]
    by_cases h0 : 0 < p
    · have hl := lastSz_pos h0 hp
      have hs : (p : Int) - (lastSz l p : Int) = ((p - lastSz l p : Nat) : Int) := by omega
      refine Ev.pos (by omega) (Ev.bind (rlast_ev ok hp) ?_)
      rw [w64 (n := (p : Int) - (lastSz l p : Int)) (by omega) (by omega), hs]
      refine Ev.bind (rkls_ev ok _) ?_
      by_cases h1 : kls l (p - lastSz l p) = c
      · rw [if_pos ⟨h0, by unfold sameB; simp [h1]⟩]
        refine Ev.pos h1 (Ev.bind (rlast_ev ok hp) ?_)
        rw [w64 (n := (p : Int) - (lastSz l p : Int)) (by omega) (by omega), hs]
        exact ih _ (by omega) (by omega)
      · rw [if_neg (fun h => h1 (by have := h.2; unfold sameB at this; simpa using this))]
        exact Ev.neg h1 (Ev.now _)
    · rw [if_neg (fun h => h0 h.1)]
      exact Ev.neg (by omega) (Ev.now _)
theorem rbackj_ev {p : Nat} (hp : p ≤ l.length) : Ev (fun k => Z_back.j1 k l (p : Int)) ((if kls l p ≠ 0 then backOn (sameB l (kls l p)) l p else p : Nat) : Int) := by
  refine Ev.step (fun k => rfl) ?_
  simp only [Z_back.j1]
  refine Ev.bind (rkls_ev ok p) ?_
  by_cases h : kls l p = 0
  · rw [if_neg (by simp [h]), h]
    refine Ev.step (fun k => rfl) ?_
    simp only [Z_back.l1]
    exact Ev.pos trivial (Ev.now _)
  · rw [if_pos h]
    exact rback1_ev ok h _ p (Nat.le_refl _) hp
theorem rback0_ev : ∀ (n p : Nat), p ≤ n → p ≤ l.length → Ev (fun k => Z_back.l0 k l (p : Int)) ((if kls l (backOn (blankB l) l p) ≠ 0 then backOn (sameB l (kls l (backOn (blankB l) l p))) l (backOn (blankB l) l p) else backOn (blankB l) l p : Nat) : Int) := by
  have hsz := ok.size
  intro n
  induction n with
  | zero =>
    intro p hn hp
    have e : backOn (blankB l) l p = p := by rw [backOn_eq _ _ hp, if_neg (by omega)]
    rw [e]
    refine Ev.step (fun k => rfl) ?_
    simp only [Z_back.l0]
    exact Ev.neg (by omega) (rbackj_ev ok hp)
  | succ n ih =>
    intro p hn hp
    refine Ev.step (fun k => rfl) ?_
    simp only [Z_back.l0]
    by_cases h0 : 0 < p
    · have hl := lastSz_pos h0 hp
      refine Ev.pos (by omega) (Ev.bind (rkls_ev ok p) ?_)
      by_cases h1 : kls l p = 0
      · have e : backOn (blankB l) l p = backOn (blankB l) l (p - lastSz l p) := by rw [backOn_eq _ _ hp, if_pos ⟨h0, by unfold blankB; simp [h1]⟩]
        rw [e]
        refine Ev.pos h1 (Ev.bind (rlast_ev ok hp) ?_)
        rw [w64 (n := (p : Int) - (lastSz l p : Int)) (by omega) (by omega), show (p : Int) - (lastSz l p : Int) = ((p - lastSz l p : Nat) : Int) by omega]
        exact ih _ (by omega) (by omega)
      · have e : backOn (blankB l) l p = p := by rw [backOn_eq _ _ hp, if_neg (fun h => h1 (by have := h.2; unfold blankB at this; simpa using this))]
        rw [e]
        exact Ev.neg h1 (rbackj_ev ok hp)
    · have e : backOn (blankB l) l p = p := by rw [backOn_eq _ _ hp, if_neg (fun h => h0 h.1)]
      rw [e]
      exact Ev.neg (by omega) (rbackj_ev ok hp)
theorem rback_ev {i : Nat} (hi : i ≤ l.length) : Ev (fun k => Z_back.f k l (i : Int)) (back l i : Int) := by
  have hsz := ok.size
  have hl := lastSz_le (l := l) hi
  simp only [Z_back.f]
  refine Ev.bind (rlast_ev ok hi) ?_
  rw [w64 (n := (i : Int) - (lastSz l i : Int)) (by omega) (by omega), show (i : Int) - (lastSz l i : Int) = ((i - lastSz l i : Nat) : Int) by omega, back_eq l hi]
  exact rback0_ev ok _ _ (Nat.le_refl _) (by omega)
end
section
variable {l : List Int} (ok : OkL l) {i : Nat} (hb : begins l i = true) (key : ByteArray) (a : List Int) (c : Int) (hc2 : c ≤ 9223372036854775807) (op : Bool)
include ok hb
omit hb in
theorem rwords0_ev {n : Nat} (hn : (n : Int) ≤ 9223372036854775807) : ∀ (m p : Nat) (j : Int), begins l p = true → j + m = n → 0 ≤ j →
    Ev (fun k => Z_words.l0 k l (i : Int) (n : Int) op (p : Int) j) (if op = true then ((wordsN l op m p : Int), false, false, true) else ((rest l (wordsN l op m p) : Int), false, false, ((rest l (wordsN l op m p) : Int) != (i : Int)))) := by
  intro m
  have stop : ∀ (p : Nat), begins l p = true → Ev (fun k => if op = true then some ((p : Int), false, false, true) else (Z_Rest.f k l (p : Int)).bind fun t => some (t, false, false, (t != (i : Int)))) (if op = true then ((p : Int), false, false, true) else ((rest l p : Int), false, false, ((rest l p : Int) != (i : Int)))) := fun p hp => by
    by_cases ho : op = true
    · rw [if_pos ho]; exact Ev.pos ho (Ev.now _)
    · rw [if_neg ho]; exact Ev.neg ho (Ev.bind (rRestB ok hp) (Ev.now _))
  induction m with
  | zero =>
    intro p j hp hj h0
    refine Ev.step (fun k => rfl) ?_
    simp only [Z_words.l0]
    exact Ev.neg (by omega) (stop p hp)
  | succ m ih =>
    intro p j hp hj h0
    have hpl := begins_le hp
    refine Ev.step (fun k => rfl) ?_
    simp only [Z_words.l0, wordsN]
    refine Ev.pos (by omega) ?_
    by_cases hlt : p < l.length
    · rw [if_pos hlt]
      refine Ev.pos (by omega) ?_
      have hw : ∀ st, begins l (word l p st) = true := fun st => wordP_begins hp
      by_cases ho : op = true
      · refine Ev.pos ho ?_
        have e : (j == wrap64 ((n : Int) - 1)) = (op && decide (m = 0)) := by
          rw [w64 (by omega) (by omega), ho, Bool.true_and, Bool.eq_iff_iff, beq_iff_eq, decide_eq_true_eq]
          omega
        rw [e]
        refine Ev.bind (rword_ev ok hpl _) ?_
        rw [w64 (n := j + 1) (by omega) (by omega)]
        exact ih _ (j + 1) (hw _) (by omega) (by omega)
      · refine Ev.neg ho ?_
        have e : (op && decide (m = 0)) = false := by simp [ho]
        rw [e]
        refine Ev.bind (rword_ev ok hpl _) ?_
        rw [w64 (n := j + 1) (by omega) (by omega)]
        exact ih _ (j + 1) (hw _) (by omega) (by omega)
    · rw [if_neg hlt]
      exact Ev.neg (by omega) (stop p hp)
omit hb in
theorem rwords1_ev {n : Nat} (hn : (n : Int) ≤ 9223372036854775807) : ∀ (m p : Nat) (j : Int), begins l p = true → j + m = n → 0 ≤ j →
    Ev (fun k => Z_words.l1 k l (n : Int) (p : Int) j) (goT ((endsN l m p).map incl))
  | 0, p, j, hp, hj, h0 => by
    refine Ev.step (fun k => rfl) ?_
    simp only [Z_words.l1]
    exact Ev.neg (by omega) (Ev.is (Ev.now _) rfl)
  | m + 1, p, j, hp, hj, h0 => by
    refine Ev.step (fun k => rfl) ?_
    simp only [Z_words.l1]
    refine Ev.pos (by omega) (Ev.bind (rends_ev ok hp) ?_)
    rw [endsN_one]
    cases hE : ends1 l p with
    | none => exact Ev.neg (by simp [lnT]) (Ev.is (Ev.now _) rfl)
    | some q =>
      refine Ev.pos rfl ?_
      simp only [lnT, Option.bind_some]
      rw [w64 (n := j + 1) (by omega) (by omega)]
      refine rwords1_ev hn m q (j + 1) ?_ (by omega) (by omega)
      have : endsN l 1 p = some q := by rw [endsN_one, hE]; rfl
      exact (endsN_spec hp this).1
omit hb in
theorem rwords2_ev {n : Nat} (hn : (n : Int) ≤ 9223372036854775807) : ∀ (m p : Nat) (j : Int), begins l p = true → j + m = n → 0 ≤ j →
    Ev (fun k => Z_words.l2 k l (n : Int) (p : Int) j) ((backsN l m p : Int), false, false, true)
  | 0, p, j, hp, hj, h0 => by
    refine Ev.step (fun k => rfl) ?_
    simp only [Z_words.l2]
    exact Ev.neg (by omega) (Ev.is (Ev.now _) rfl)
  | m + 1, p, j, hp, hj, h0 => by
    refine Ev.step (fun k => rfl) ?_
    simp only [Z_words.l2, backsN]
    refine Ev.pos (by omega) ?_
    by_cases h : 0 < p
    · rw [if_pos h]
      refine Ev.pos (by omega) (Ev.bind (rback_ev ok (begins_le hp)) ?_)
      rw [w64 (n := j + 1) (by omega) (by omega)]
      exact rwords2_ev hn m _ (j + 1) (back_spec hp h).1 (by omega) (by omega)
    · rw [if_neg h]
      exact Ev.neg (by omega) (Ev.now _)
include hc2
theorem rwords_w (hk : key.toList = [119]) : Ans (fun k => Z_words.f k l (i : Int) key a c (times c : Int) op) (motion l i key.toList a c op) := by
  have hi := begins_le hb
  have ht := (times_le c).2 hc2
  rw [hk, motion_w]
  simp only [Z_words.f]
  by_cases h : i < l.length
  · rw [if_pos h]
    refine ⟨_, Ev.pos hk (Ev.neg (by omega) (rwords0_ev ok op ht (times c) i 0 hb (by omega) (Int.le_refl _))), ?_⟩
    by_cases ho : op = true
    · rw [if_pos ho, if_pos ho]
      exact .inl ⟨_, rfl, rfl⟩
    · rw [if_neg ho, if_neg ho]
      by_cases he : rest l (wordsN l op (times c) i) = i
      · rw [if_pos he]
        exact .inr ⟨rfl, by simp [he]⟩
      · rw [if_neg he]
        have hne : ((rest l (wordsN l op (times c) i) : Int) != (i : Int)) = true := by
          rw [bne_iff_ne]; omega
        rw [hne]
        exact .inl ⟨_, rfl, rfl⟩
  · rw [if_neg h]
    exact ⟨_, Ev.pos hk (Ev.pos (by omega) (Ev.now _)), .inr ⟨rfl, rfl⟩⟩
theorem rwords_e (hk : key.toList = [101]) : Ans (fun k => Z_words.f k l (i : Int) key a c (times c : Int) op) (motion l i key.toList a c op) := by
  have ht := (times_le c).2 hc2
  rw [hk, motion_e]
  simp only [Z_words.f]
  exact .of (Ev.neg (by rw [hk]; decide) (Ev.pos hk (rwords1_ev ok ht (times c) i 0 hb (by omega) (Int.le_refl _))))
theorem rwords_b (hk : key.toList = [98]) : Ans (fun k => Z_words.f k l (i : Int) key a c (times c : Int) op) (motion l i key.toList a c op) := by
  have ht := (times_le c).2 hc2
  rw [hk, motion_b]
  simp only [Z_words.f]
  by_cases h : 0 < i
  · rw [if_pos h]
    exact .of (Ev.neg (by rw [hk]; decide) (Ev.neg (by rw [hk]; decide) (Ev.neg (by omega) (rwords2_ev ok ht (times c) i 0 hb (by omega) (Int.le_refl _)))))
  · rw [if_neg h]
    exact .of (Ev.neg (by rw [hk]; decide) (Ev.neg (by rw [hk]; decide) (Ev.pos (by omega) (Ev.is (Ev.now _) rfl))))
end
end Go.Proofs.Ytiibjehnlphabaa

end

section
namespace Go.Proofs.Ytiibjehnlphabaa
open Go.RowKit Go.Proofs.YtiibjehnlphabaaW.PrintWords Go.Proofs.YtiibjehnlphabaaW.PrintMore Q
set_option linter.unusedVariables false
set_option linter.unusedSimpArgs false
theorem drop_cons {x : List Int} {i : Nat} (h : i < x.length) : x.drop i = x.getD i 0 :: x.drop (i + 1) := by
  rw [List.drop_eq_getElem_cons h, List.getD_eq_getElem?_getD, List.getElem?_eq_getElem h]
  rfl
theorem rsame0_ev {x y : List Int} (hl : x.length = y.length) (hx : x.length ≤ 140737488351232) : ∀ (n i : Nat), x.length - i ≤ n → Ev (fun k => X_Same.l0 k x y (i : Int)) (decide (x.drop i = y.drop i)) := by
  intro n
  induction n with
  | zero =>
    intro i hn
    refine Ev.step (fun k => rfl) ?_
    simp only [X_Same.l0]
    refine Ev.neg (by omega) (Ev.is (Ev.now _) ?_)
    rw [List.drop_eq_nil_of_le (by omega), List.drop_eq_nil_of_le (by omega)]
    rfl
  | succ n ih =>
    intro i hn
    refine Ev.step (fun k => rfl) ?_
    simp only [X_Same.l0]
    by_cases h : i < x.length
    · refine Ev.pos (by omega) (Ev.pos (by omega) (Ev.pos (by omega) ?_))
      rw [rd_nat, rd_nat, w64 (n := (i : Int) + 1) (by omega) (by omega), drop_cons h, drop_cons (x := y) (by omega)]
      by_cases he : x.getD i 0 = y.getD i 0
      · refine Ev.pos he (Ev.is (ih (i + 1) (by omega)) ?_)
        rw [decide_eq_decide, he, List.cons.injEq]
        exact ⟨fun h => ⟨rfl, h⟩, fun h => h.2⟩
      · refine Ev.neg he (Ev.is (Ev.now _) ?_)
        rw [eq_comm, decide_eq_false_iff_not]
        intro h
        rw [List.cons.injEq] at h
        exact he h.1
    · refine Ev.neg (by omega) (Ev.is (Ev.now _) ?_)
      rw [List.drop_eq_nil_of_le (by omega), List.drop_eq_nil_of_le (by omega)]
      rfl
theorem rsame_ev {x : List Int} (y : List Int) (hx : x.length ≤ 140737488351232) : Ev (fun k => X_Same.f k x y) (decide (x = y)) := by
  simp only [X_Same.f]
  by_cases h : x.length = y.length
  · exact Ev.pos (by omega) (rsame0_ev h hx _ 0 (Nat.le_refl _))
  · refine Ev.neg (by omega) (Ev.is (Ev.now _) ?_)
    rw [eq_comm, decide_eq_false_iff_not]
    exact fun e => h (by rw [e])
theorem count_one {a : List Int} (h : 0 < a.length) : count a = 1 ↔ on a 0 = a.length := by
  have hg := on_gt h
  unfold count
  obtain ⟨m, hm⟩ : ∃ m, a.length = m + 1 := ⟨a.length - 1, by omega⟩
  rw [show cnt a a.length 0 = cnt a (m + 1) 0 by rw [← hm]]
  simp only [cnt]
  rw [if_pos h]
  cases m with
  | zero => exact ⟨fun _ => by omega, fun _ => rfl⟩
  | succ m =>
    simp only [cnt]
    split <;> omega
theorem one_iff (a : List Int) : one a = true ↔ 0 < a.length ∧ count a = 1 := by
  unfold one
  rw [Bool.and_eq_true, decide_eq_true_eq, decide_eq_true_eq]
  constructor
  · rintro ⟨h1, h2⟩
    have h : 0 < a.length := by omega
    refine ⟨h, (count_one h).2 ?_⟩
    unfold on
    omega
  · rintro ⟨h1, h2⟩
    have := (count_one h1).1 h2
    unfold on at this
    omega
section
variable {l : List Int} (ok : OkL l) (key : ByteArray) (a : List Int) (c : Int)
def finT (l : List Int) (key : ByteArray) (fwd : Bool) (j : Nat) : Int × Bool × Bool × Bool :=
  if key.toList = [116] then (((j - lastSz l j : Nat) : Int), fwd, false, true) else if key.toList = [84] then ((on l j : Int), fwd, false, true) else ((j : Int), fwd, false, true)
def finO (l : List Int) (key : ByteArray) (fwd : Bool) : Option Nat → Int × Bool × Bool × Bool
  | some j => finT l key fwd j
  | none => (0, false, false, false)
include ok
theorem rfind_end {j : Nat} (hj : j ≤ l.length) (fwd : Bool) (s e : Int) : Ev (fun k => Z_find.l0 k l 0 fwd s e (j : Int) key a c) (finT l key fwd j) := by
  have hsz := ok.size
  refine Ev.step (fun k => rfl) ?_
  simp only [Z_find.l0, finT]
  refine Ev.neg (by omega) ?_
  by_cases h1 : key.toList = [116]
  · have hl := lastSz_le (l := l) hj
    rw [if_pos h1]
    refine Ev.pos h1 (Ev.bind (rlast_ev ok hj) (Ev.is (Ev.now _) ?_))
    rw [w64 (by omega) (by omega), show (j : Int) - (lastSz l j : Int) = ((j - lastSz l j : Nat) : Int) by omega]
  · rw [if_neg h1]
    refine Ev.neg h1 ?_
    by_cases h2 : key.toList = [84]
    · have ho := on_le hj
      rw [if_pos h2]
      refine Ev.pos h2 (Ev.bind (rsize_ev ok j) (Ev.is (Ev.now _) ?_))
      unfold on at ho ⊢
      rw [w64 (by omega) (by omega)]
      rfl
    · rw [if_neg h2]
      exact Ev.neg h2 (Ev.now _)
theorem rfind_j3 {e : Nat} (he : e ≤ l.length) {p : Nat} (hp : p < e) (fwd : Bool) (s : Int) {n : Int} {r : Int × Bool × Bool × Bool}
    (h1 : isAt l a p = true → Ev (fun k => Z_find.l0 k l (wrap64 (n - 1)) fwd s (e : Int) (p : Int) key a c) r)
    (h2 : isAt l a p = false → Ev (fun k => Z_find.l0 k l n fwd s (e : Int) (p : Int) key a c) r) : Ev (fun k => Z_find.j3 k l n fwd s (e : Int) (p : Int) key a c) r := by
  have hsz := ok.size
  have hg := on_gt (show p < l.length by omega)
  have ho : (p : Int) + (sz l p : Int) = ((on l p : Nat) : Int) := by unfold on; omega
  refine Ev.step (fun k => rfl) ?_
  simp only [Z_find.j3]
  refine Ev.pos (by omega) (Ev.bind (rsize_ev ok p) ?_)
  rw [w64 (n := (p : Int) + (sz l p : Int)) (by omega) (by omega), ho]
  refine Ev.pos (by omega) (Ev.pos (by omega) (Ev.pos (by omega) ?_))
  have ec : (l.take ((on l p : Nat) : Int).toNat).drop ((p : Nat) : Int).toNat = (l.drop p).take (sz l p) := by
    rw [show ((on l p : Nat) : Int).toNat = p + sz l p by unfold on; omega, show ((p : Nat) : Int).toNat = p by omega, List.drop_take, Nat.add_sub_cancel_left]
  rw [ec]
  refine Ev.bind (rsame_ev a (by rw [List.length_take, List.length_drop]; omega)) ?_
  by_cases h : isAt l a p = true
  · exact Ev.pos (by unfold isAt at h; exact h) (h1 h)
  · exact Ev.neg (by unfold isAt at h; exact h) (h2 (by simpa using h))
theorem rfind_fwd {tt : Nat} (ht : tt ≤ l.length) (s : Int) : ∀ (m p n : Nat), tt - p ≤ m → p ≤ l.length → 1 ≤ n → (n : Int) ≤ 9223372036854775807 → Ev (fun k => Z_find.l0 k l (n : Int) true s (tt : Int) (p : Int) key a c) (finO l key true (aheadOn l a tt n p)) := by
  have hsz := ok.size
  intro m
  induction m with
  | zero =>
    intro p n hm hp hn hn2
    rw [aheadOn_eq l a ht, if_neg (by omega)]
    refine Ev.step (fun k => rfl) ?_
    simp only [Z_find.l0]
    exact Ev.pos (by omega) (Ev.pos trivial (Ev.pos (by omega) (Ev.is (Ev.now _) rfl)))
  | succ m ih =>
    intro p n hm hp hn hn2
    rw [aheadOn_eq l a ht]
    refine Ev.step (fun k => rfl) ?_
    simp only [Z_find.l0]
    refine Ev.pos (by omega) (Ev.pos trivial ?_)
    by_cases hlt : p < tt
    · have hg := on_gt (show p < l.length by omega)
      rw [if_pos hlt]
      refine Ev.neg (by omega) (Ev.bind (rsize_ev ok p) ?_)
      rw [w64 (n := (p : Int) + (sz l p : Int)) (by unfold on at hg; omega) (by unfold on at hg; omega), show (p : Int) + (sz l p : Int) = ((on l p : Nat) : Int) by unfold on; omega]
      by_cases hlt2 : on l p < tt
      · refine rfind_j3 ok key a c ht hlt2 true s (fun h => ?_) (fun h => ?_)
        · rw [if_pos ⟨hlt2, h⟩, w64 (n := (n : Int) - 1) (by omega) (by omega)]
          by_cases h1 : n = 1
          · subst h1
            exact rfind_end ok key a c hg.2.1 true s _
          · rw [if_neg h1, show (n : Int) - 1 = ((n - 1 : Nat) : Int) by omega]
            exact ih _ _ (by omega) hg.2.1 (by omega) (by omega)
        · rw [if_neg (fun h2 => by rw [h] at h2; exact absurd h2.2 (by decide))]
          exact ih _ _ (by omega) hg.2.1 hn hn2
      · rw [if_neg (fun h2 => hlt2 h2.1)]
        refine Ev.step (fun k => rfl) ?_
        simp only [Z_find.j3]
        exact Ev.neg (by omega) (ih _ _ (by omega) hg.2.1 hn hn2)
    · rw [if_neg hlt]
      exact Ev.pos (by omega) (Ev.is (Ev.now _) rfl)
theorem rfind_bwd {s e : Nat} (he : e ≤ l.length) : ∀ (m p n : Nat), p ≤ m → p ≤ e → 1 ≤ n → (n : Int) ≤ 9223372036854775807 → Ev (fun k => Z_find.l0 k l (n : Int) false (s : Int) (e : Int) (p : Int) key a c) (finO l key false (behindOn l a s n p)) := by
  have hsz := ok.size
  intro m
  induction m with
  | zero =>
    intro p n hm hp hn hn2
    rw [behindOn_eq l a _ (by omega), if_neg (by omega)]
    refine Ev.step (fun k => rfl) ?_
    simp only [Z_find.l0]
    exact Ev.pos (by omega) (Ev.neg (by simp) (Ev.pos (by omega) (Ev.is (Ev.now _) rfl)))
  | succ m ih =>
    intro p n hm hp hn hn2
    rw [behindOn_eq l a _ (by omega)]
    refine Ev.step (fun k => rfl) ?_
    simp only [Z_find.l0]
    refine Ev.pos (by omega) (Ev.neg (by simp) ?_)
    by_cases hlt : s < p
    · have hl := lastSz_pos (l := l) (i := p) (by omega) (by omega)
      rw [if_pos hlt]
      refine Ev.neg (by omega) (Ev.bind (rlast_ev ok (by omega)) ?_)
      rw [w64 (n := (p : Int) - (lastSz l p : Int)) (by omega) (by omega), show (p : Int) - (lastSz l p : Int) = ((p - lastSz l p : Nat) : Int) by omega]
      refine rfind_j3 ok key a c he (by omega) false s (fun h => ?_) (fun h => ?_)
      · rw [if_pos h, w64 (n := (n : Int) - 1) (by omega) (by omega)]
        by_cases h1 : n = 1
        · subst h1
          exact rfind_end ok key a c (by omega) false s _
        · rw [if_neg h1, show (n : Int) - 1 = ((n - 1 : Nat) : Int) by omega]
          exact ih _ _ (by omega) (by omega) (by omega) (by omega)
      · rw [if_neg (fun h2 => by rw [h] at h2; exact absurd h2 (by decide))]
        exact ih _ _ (by omega) (by omega) hn hn2
    · rw [if_neg hlt]
      exact Ev.pos (by omega) (Ev.is (Ev.now _) rfl)
theorem rfind_ev (oa : OkL a) {i : Nat} (hi : i ≤ l.length) (hc2 : c ≤ 9223372036854775807) (fwd : Bool) (hf : (key.toList = [102] ∧ fwd = true) ∨ (key.toList ≠ [102] ∧ fwd = (key.toList == [116]))) :
    Ev (fun k => Z_find.f k l (i : Int) key a c (times c : Int)) (finO l key fwd (if fwd = true then ahead l a (times c) i else behind l a (times c) i)) := by
  have ht := (times_le c).2 hc2
  have hp := times_pos c
  have hfi := fin_le hi
  simp only [Z_find.f]
  have body : one a = true → Ev (fun k => Z_find.j0 k l (i : Int) (times c : Int) false key a c) (finO l key fwd (if fwd = true then ahead l a (times c) i else behind l a (times c) i)) := fun h1 => by
    have go : Ev (fun k => Z_find.j1 k l (i : Int) (times c : Int) fwd key a c) (finO l key fwd (if fwd = true then ahead l a (times c) i else behind l a (times c) i)) := by
      refine Ev.step (fun k => rfl) ?_
      simp only [Z_find.j1]
      refine Ev.bind (rstart_ev ok hi) (Ev.bind (rend_ev ok hi) ?_)
      rw [ahead_eq l a _ hi, behind_eq l a _ hi, if_pos h1, if_pos h1]
      cases fwd
      · exact rfind_bwd ok key a c hfi.2 i i (times c) (Nat.le_refl _) hfi.1 hp ht
      · exact rfind_fwd ok key a c hfi.2 _ _ i (times c) (Nat.le_refl _) hi hp ht
    refine Ev.step (fun k => rfl) ?_
    simp only [Z_find.j0]
    refine Ev.neg (by simp) ?_
    rcases hf with ⟨hk, hf⟩ | ⟨hk, hf⟩
    · rw [hf] at go ⊢
      exact Ev.pos hk go
    · refine Ev.neg hk ?_
      rw [← hf]
      exact go
  have no : one a = false → Ev (fun k => Z_find.j0 k l (i : Int) (times c : Int) true key a c) (finO l key fwd (if fwd = true then ahead l a (times c) i else behind l a (times c) i)) := fun h1 => by
    have e : (if fwd = true then ahead l a (times c) i else behind l a (times c) i) = none := by
      unfold ahead behind
      rw [h1]
      cases fwd <;> simp
    rw [e]
    refine Ev.step (fun k => rfl) ?_
    simp only [Z_find.j0]
    exact Ev.pos trivial (Ev.is (Ev.now _) rfl)
  have hone := one_iff a
  by_cases h0 : 0 < a.length
  · refine Ev.neg (by omega) (Ev.bind (rcount_ev oa) ?_)
    by_cases h1 : count a = 1
    · have e : ((count a : Int) != 1) = false := by rw [h1]; rfl
      rw [e]
      exact body (hone.2 ⟨h0, h1⟩)
    · have e : ((count a : Int) != 1) = true := by rw [bne_iff_ne]; omega
      rw [e]
      refine no ?_
      rcases Bool.eq_false_or_eq_true (one a) with h | h
      · exact absurd (hone.1 h).2 h1
      · exact h
  · refine Ev.pos (by omega) (no ?_)
    rcases Bool.eq_false_or_eq_true (one a) with h | h
    · exact absurd (hone.1 h).1 h0
    · exact h
theorem rfind_f (oa : OkL a) {i : Nat} (hi : i ≤ l.length) (hc2 : c ≤ 9223372036854775807) (op : Bool) (hk : key.toList = [102]) : Ev (fun k => Z_find.f k l (i : Int) key a c (times c : Int)) (goT (motion l i key.toList a c op)) := by
  refine Ev.is (rfind_ev ok key a c oa hi hc2 true (.inl ⟨hk, rfl⟩)) ?_
  rw [hk, motion_f, if_pos rfl]
  cases ahead l a (times c) i with
  | none => rfl
  | some j => simp only [finO, finT, hk]; rfl
theorem rfind_t (oa : OkL a) {i : Nat} (hi : i ≤ l.length) (hc2 : c ≤ 9223372036854775807) (op : Bool) (hk : key.toList = [116]) : Ev (fun k => Z_find.f k l (i : Int) key a c (times c : Int)) (goT (motion l i key.toList a c op)) := by
  refine Ev.is (rfind_ev ok key a c oa hi hc2 true (.inr ⟨by rw [hk]; decide, by rw [hk]; rfl⟩)) ?_
  rw [hk, motion_t, if_pos rfl]
  cases ahead l a (times c) i with
  | none => rfl
  | some j => simp only [finO, finT, hk]; rfl
theorem rfind_F (oa : OkL a) {i : Nat} (hi : i ≤ l.length) (hc2 : c ≤ 9223372036854775807) (op : Bool) (hk : key.toList = [70]) : Ev (fun k => Z_find.f k l (i : Int) key a c (times c : Int)) (goT (motion l i key.toList a c op)) := by
  refine Ev.is (rfind_ev ok key a c oa hi hc2 false (.inr ⟨by rw [hk]; decide, by rw [hk]; rfl⟩)) ?_
  rw [hk, motion_F, if_neg (by decide)]
  cases behind l a (times c) i with
  | none => rfl
  | some j => simp only [finO, finT, hk]; rfl
theorem rfind_T (oa : OkL a) {i : Nat} (hi : i ≤ l.length) (hc2 : c ≤ 9223372036854775807) (op : Bool) (hk : key.toList = [84]) : Ev (fun k => Z_find.f k l (i : Int) key a c (times c : Int)) (goT (motion l i key.toList a c op)) := by
  refine Ev.is (rfind_ev ok key a c oa hi hc2 false (.inr ⟨by rw [hk]; decide, by rw [hk]; rfl⟩)) ?_
  rw [hk, motion_T, if_neg (by decide)]
  cases behind l a (times c) i with
  | none => rfl
  | some j => simp only [finO, finT, hk]; rfl
end

section
variable {l : List Int} (ok : OkL l)
include ok
theorem rdown1_ev {n : Nat} (hn : (n : Int) ≤ 9223372036854775807) (m : Nat) (j : Int) (hj : j + (m + 1) = n) (h0 : 0 ≤ j)
    (hl0 : ∀ p, p ≤ l.length → Ev (fun k => Z_empty.l0 k l false (n : Int) (p : Int) (j + 1)) (paraN l m p : Int)) : ∀ (d p : Nat), l.length - p ≤ d → p ≤ l.length →
    Ev (fun k => Z_empty.l1 k l false (n : Int) (p : Int) j) (paraN l m (downOn l (fin l p)) : Int) := by
  have hsz := ok.size
  intro d
  induction d with
  | zero =>
    intro p hd hp
    have hf := fin_le hp
    refine Ev.step (fun k => rfl) ?_
    simp only [Z_empty.l1]
    refine Ev.neg (by simp) (Ev.bind (rbelow_ev ok hp 1 (by omega)) ?_)
    rw [below_one, if_neg (by omega), downOn_eq, if_neg (by omega), paraN_end l (.inr (by omega))]
    refine Ev.step (fun k => rfl) ?_
    simp only [Z_empty.j2, lnT]
    exact Ev.neg (by simp) (Ev.neg (by simp) (Ev.is (Ev.now _) (by congr 1; omega)))
  | succ d ih =>
    intro p hd hp
    have hf := fin_le hp
    refine Ev.step (fun k => rfl) ?_
    simp only [Z_empty.l1]
    refine Ev.neg (by simp) (Ev.bind (rbelow_ev ok hp 1 (by omega)) ?_)
    rw [below_one, downOn_eq]
    by_cases h : fin l p < l.length
    · rw [if_pos h, if_pos h]
      refine Ev.step (fun k => rfl) ?_
      simp only [Z_empty.j2, lnT]
      refine Ev.pos trivial (Ev.bind (rend_ev ok (show fin l p + 1 ≤ l.length by omega)) ?_)
      by_cases he : fin l (fin l p + 1) = fin l p + 1
      · rw [if_pos he]
        refine Ev.pos (by rw [he]) ?_
        rw [w64 (n := j + 1) (by omega) (by omega)]
        exact hl0 _ (by omega)
      · rw [if_neg he]
        exact Ev.neg (by omega) (ih (fin l p + 1) (by omega) (by omega))
    · rw [if_neg h, if_neg h, paraN_end l (.inr h)]
      refine Ev.step (fun k => rfl) ?_
      simp only [Z_empty.j2, lnT]
      exact Ev.neg (by simp) (Ev.neg (by simp) (Ev.is (Ev.now _) (by congr 1; omega)))
theorem rdown0_ev {n : Nat} (hn : (n : Int) ≤ 9223372036854775807) : ∀ (m p : Nat) (j : Int), p ≤ l.length → j + m = n → 0 ≤ j → Ev (fun k => Z_empty.l0 k l false (n : Int) (p : Int) j) (paraN l m p : Int)
  | 0, p, j, hp, hj, h0 => by
    refine Ev.step (fun k => rfl) ?_
    simp only [Z_empty.l0]
    exact Ev.neg (by omega) (Ev.is (Ev.now _) rfl)
  | m + 1, p, j, hp, hj, h0 => by
    have hf := fin_le hp
    refine Ev.step (fun k => rfl) ?_
    simp only [Z_empty.l0]
    refine Ev.pos (by omega) (Ev.is (rdown1_ev ok hn m j (by omega) h0 (fun q hq => rdown0_ev hn m q (j + 1) hq (by omega) (by omega)) _ p (Nat.le_refl _) hp) ?_)
    simp only [paraN]
    by_cases h : p < l.length
    · rw [if_pos h]
      unfold downOn
      rw [emptyDown_more l (l.length - fin l p) l.length (fin l p) (Nat.le_refl _) (by omega)]
    · rw [if_neg h, downOn_eq, if_neg (by omega), paraN_end l (.inr (by omega))]
      congr 1
      omega
theorem rup1_ev {n : Nat} (hn : (n : Int) ≤ 9223372036854775807) (m : Nat) (j : Int) (hj : j + (m + 1) = n) (h0 : 0 ≤ j)
    (hl0 : ∀ p, p ≤ l.length → Ev (fun k => Z_empty.l0 k l true (n : Int) (p : Int) (j + 1)) (paraBackN l m p : Int)) : ∀ (d p : Nat), p ≤ d → p ≤ l.length →
    Ev (fun k => Z_empty.l1 k l true (n : Int) (p : Int) j) (paraBackN l m (upOn l (start l p)) : Int) := by
  have hsz := ok.size
  intro d
  have stop : ∀ p, p ≤ l.length → start l p = 0 → Ev (fun k => Z_empty.l1 k l true (n : Int) (p : Int) j) (paraBackN l m (upOn l (start l p)) : Int) := fun p hp hs => by
    refine Ev.step (fun k => rfl) ?_
    simp only [Z_empty.l1]
    refine Ev.pos trivial (Ev.bind (rabove_ev ok hp 1 (by omega)) ?_)
    have e : above l 1 p = none := by unfold above; simp only [aboveN]; rw [if_neg (by omega)]
    rw [e, upOn_eq, if_neg (by omega), hs, paraBackN_end l (.inr (by omega))]
    refine Ev.step (fun k => rfl) ?_
    simp only [Z_empty.j2, lnT]
    exact Ev.neg (by simp) (Ev.pos trivial (Ev.now _))
  induction d with
  | zero =>
    intro p hd hp
    have hs := start_le l p
    exact stop p hp (by omega)
  | succ d ih =>
    intro p hd hp
    have hs := start_le l p
    by_cases h : 0 < start l p
    · have hs2 := start_le l (start l p - 1)
      have hst : isStart l (start l (start l p - 1)) := isStart_start (by omega)
      refine Ev.step (fun k => rfl) ?_
      simp only [Z_empty.l1]
      refine Ev.pos trivial (Ev.bind (rabove_ev ok hp 1 (by omega)) ?_)
      have e : above l 1 p = some (start l (start l p - 1)) := by unfold above; simp only [aboveN]; rw [if_pos h]
      rw [e, upOn_eq, if_pos h]
      refine Ev.step (fun k => rfl) ?_
      simp only [Z_empty.j2, lnT]
      refine Ev.pos trivial (Ev.bind (rend_ev ok (show start l (start l p - 1) ≤ l.length by omega)) ?_)
      by_cases he : fin l (start l (start l p - 1)) = start l (start l p - 1)
      · rw [if_pos he]
        refine Ev.pos (by rw [he]) ?_
        rw [w64 (n := j + 1) (by omega) (by omega)]
        exact hl0 _ (by omega)
      · rw [if_neg he]
        have := ih (start l (start l p - 1)) (by omega) (by omega)
        rw [isStart_self hst] at this
        exact Ev.neg (by omega) this
    · exact stop p hp (by omega)
theorem rup0_ev {n : Nat} (hn : (n : Int) ≤ 9223372036854775807) : ∀ (m p : Nat) (j : Int), p ≤ l.length → j + m = n → 0 ≤ j → Ev (fun k => Z_empty.l0 k l true (n : Int) (p : Int) j) (paraBackN l m p : Int)
  | 0, p, j, hp, hj, h0 => by
    refine Ev.step (fun k => rfl) ?_
    simp only [Z_empty.l0]
    exact Ev.neg (by omega) (Ev.is (Ev.now _) rfl)
  | m + 1, p, j, hp, hj, h0 => by
    have hs := start_le l p
    refine Ev.step (fun k => rfl) ?_
    simp only [Z_empty.l0]
    refine Ev.pos (by omega) (Ev.is (rup1_ev ok hn m j (by omega) h0 (fun q hq => rup0_ev hn m q (j + 1) hq (by omega) (by omega)) _ p (Nat.le_refl _) hp) ?_)
    simp only [paraBackN]
    by_cases h : 0 < p
    · rw [if_pos h]
      unfold upOn
      rw [emptyUp_more l (start l p) l.length (start l p) (Nat.le_refl _) (by omega)]
    · rw [if_neg h, upOn_eq, if_neg (by omega), paraBackN_end l (.inr (by omega))]
      congr 1
      omega
theorem rempty_ev {i : Nat} (hi : i ≤ l.length) (up : Bool) (n : Nat) (hn : (n : Int) ≤ 9223372036854775807) : Ev (fun k => Z_empty.f k l (i : Int) up (n : Int)) ((if up = true then paraBackN l n i else paraN l n i : Nat) : Int) := by
  simp only [Z_empty.f]
  cases up
  · exact rdown0_ev ok hn n i 0 hi (by omega) (Int.le_refl _)
  · exact rup0_ev ok hn n i 0 hi (by omega) (Int.le_refl _)

theorem rfwd_ev {o c : Int} (hoc : o ≠ c) : ∀ (n p : Nat) (d : Int), l.length - p ≤ n → -(p : Int) ≤ d → d ≤ p → p ≤ l.length → Ev (fun k => Z_closes.l0 k l (p : Int) o c true d) (goT ((deepFrom l o c d p).map incl)) := by
  have hsz := ok.size
  intro n
  induction n with
  | zero =>
    intro p d hn h1 h2 hp
    rw [deepFrom_end l o c d (by omega)]
    refine Ev.step (fun k => rfl) ?_
    simp only [Z_closes.l0]
    refine Ev.pos (by omega) (Ev.step (fun k => rfl) ?_)
    simp only [Z_closes.j1]
    exact Ev.neg (by simp; omega) (Ev.is (Ev.now _) rfl)
  | succ n ih =>
    intro p d hn h1 h2 hp
    by_cases hlt : p < l.length
    · rw [deepFrom_eq l o c d hlt]
      have tail : -(p : Int) - 1 ≤ stepF (l.getD p 0) o c d → stepF (l.getD p 0) o c d ≤ p + 1 → Ev (fun k => Z_closes.j3 k l (p : Int) o c true (stepF (l.getD p 0) o c d)) (goT ((if stepF (l.getD p 0) o c d = 0 then some p else deepFrom l o c (stepF (l.getD p 0) o c d) (p + 1)).map incl)) := fun a1 a2 => by
        refine Ev.step (fun k => rfl) ?_
        simp only [Z_closes.j3]
        by_cases h0 : stepF (l.getD p 0) o c d = 0
        · rw [if_pos h0]
          exact Ev.pos h0 (Ev.is (Ev.now _) rfl)
        · rw [if_neg h0]
          refine Ev.neg h0 (Ev.pos trivial ?_)
          rw [w64 (n := (p : Int) + 1) (by omega) (by omega)]
          exact ih (p + 1) _ (by omega) (by omega) (by omega) (by omega)
      refine Ev.step (fun k => rfl) ?_
      simp only [Z_closes.l0]
      refine Ev.pos (by omega) (Ev.step (fun k => rfl) ?_)
      simp only [Z_closes.j1]
      refine Ev.pos (by simp; omega) (Ev.pos (by omega) (Ev.pos (by omega) ?_))
      rw [rd_nat]
      by_cases ho : l.getD p 0 = o
      · have e : stepF (l.getD p 0) o c d = d + 1 := by unfold stepF; rw [if_pos ho]
        rw [e] at tail ⊢
        refine Ev.pos ho ?_
        rw [w64 (n := d + 1) (by omega) (by omega)]
        refine Ev.step (fun k => rfl) ?_
        simp only [Z_closes.j2]
        refine Ev.pos (by omega) (Ev.pos (by omega) ?_)
        rw [rd_nat]
        exact Ev.neg (by rw [ho]; exact hoc) (tail (by omega) (by omega))
      · refine Ev.neg ho (Ev.step (fun k => rfl) ?_)
        simp only [Z_closes.j2]
        refine Ev.pos (by omega) (Ev.pos (by omega) ?_)
        rw [rd_nat]
        by_cases hc : l.getD p 0 = c
        · have e : stepF (l.getD p 0) o c d = d - 1 := by unfold stepF; rw [if_neg ho, if_pos hc]
          rw [e] at tail ⊢
          refine Ev.pos hc ?_
          rw [w64 (n := d - 1) (by omega) (by omega)]
          exact tail (by omega) (by omega)
        · have e : stepF (l.getD p 0) o c d = d := by unfold stepF; rw [if_neg ho, if_neg hc]
          rw [e] at tail ⊢
          exact Ev.neg hc (tail (by omega) (by omega))
    · rw [deepFrom_end l o c d hlt]
      refine Ev.step (fun k => rfl) ?_
      simp only [Z_closes.l0]
      refine Ev.pos (by omega) (Ev.step (fun k => rfl) ?_)
      simp only [Z_closes.j1]
      exact Ev.neg (by simp; omega) (Ev.is (Ev.now _) rfl)
theorem rbwd_ev {o c : Int} (hoc : o ≠ c) : ∀ (q : Nat) (d : Int), q ≤ l.length → -((l.length - q : Nat) : Int) ≤ d → d ≤ ((l.length - q : Nat) : Int) → Ev (fun k => Z_closes.l0 k l ((q : Int) - 1) c o false d) (goT ((deepTo l o c q d).map incl))
  | 0, d, hq, h1, h2 => by
    refine Ev.step (fun k => rfl) ?_
    simp only [Z_closes.l0]
    refine Ev.neg (by omega) (Ev.step (fun k => rfl) ?_)
    simp only [Z_closes.j1]
    exact Ev.neg (by simp) (Ev.is (Ev.now _) rfl)
  | q + 1, d, hq, h1, h2 => by
    have hsz := ok.size
    have hp : ((q + 1 : Nat) : Int) - 1 = (q : Int) := by omega
    rw [hp]
    simp only [deepTo]
    have tail : -((l.length - q : Nat) : Int) ≤ stepB (l.getD q 0) o c d → stepB (l.getD q 0) o c d ≤ ((l.length - q : Nat) : Int) → Ev (fun k => Z_closes.j3 k l (q : Int) c o false (stepB (l.getD q 0) o c d)) (goT ((if stepB (l.getD q 0) o c d = 0 then some q else deepTo l o c q (stepB (l.getD q 0) o c d)).map incl)) := fun a1 a2 => by
      refine Ev.step (fun k => rfl) ?_
      simp only [Z_closes.j3]
      by_cases h0 : stepB (l.getD q 0) o c d = 0
      · rw [if_pos h0]
        exact Ev.pos h0 (Ev.is (Ev.now _) rfl)
      · rw [if_neg h0]
        refine Ev.neg h0 (Ev.neg (by simp) ?_)
        rw [w64 (n := (q : Int) - 1) (by omega) (by omega)]
        exact rbwd_ev hoc q _ (by omega) a1 a2
    refine Ev.step (fun k => rfl) ?_
    simp only [Z_closes.l0]
    refine Ev.pos (by omega) (Ev.step (fun k => rfl) ?_)
    simp only [Z_closes.j1]
    refine Ev.pos (by simp; omega) (Ev.pos (by omega) (Ev.pos (by omega) ?_))
    rw [rd_nat]
    by_cases hc : l.getD q 0 = c
    · have e : stepB (l.getD q 0) o c d = d + 1 := by unfold stepB; rw [if_neg (by rw [hc]; exact Ne.symm hoc), if_pos hc]
      rw [e] at tail ⊢
      refine Ev.pos hc ?_
      rw [w64 (n := d + 1) (by omega) (by omega)]
      refine Ev.step (fun k => rfl) ?_
      simp only [Z_closes.j2]
      refine Ev.pos (by omega) (Ev.pos (by omega) ?_)
      rw [rd_nat]
      exact Ev.neg (by rw [hc]; exact Ne.symm hoc) (tail (by omega) (by omega))
    · refine Ev.neg hc (Ev.step (fun k => rfl) ?_)
      simp only [Z_closes.j2]
      refine Ev.pos (by omega) (Ev.pos (by omega) ?_)
      rw [rd_nat]
      by_cases ho : l.getD q 0 = o
      · have e : stepB (l.getD q 0) o c d = d - 1 := by unfold stepB; rw [if_pos ho]
        rw [e] at tail ⊢
        refine Ev.pos ho ?_
        rw [w64 (n := d - 1) (by omega) (by omega)]
        exact tail (by omega) (by omega)
      · have e : stepB (l.getD q 0) o c d = d := by unfold stepB; rw [if_neg ho, if_neg hc]
        rw [e] at tail ⊢
        exact Ev.neg ho (tail (by omega) (by omega))
omit ok in
/-- The six kinds. -/
theorem six_bt : ∀ q : Nat, q < 6 → bt (⟨#[40, 41, 91, 93, 123, 125]⟩ : ByteArray) (q : Int) = ([40, 41, 91, 93, 123, 125] : List Int).getD q 0 := by decide
omit ok in
theorem six_xor : ∀ q : Nat, q < 6 → Go.bits .xor .i64 (q : Int) 1 = (([1, 0, 3, 2, 5, 4] : List Nat).getD q 0 : Int) ∧ (Int.tmod (q : Int) 2 == 0) = ([true, false, true, false, true, false] : List Bool).getD q false := by decide +kernel
theorem rmatch1_ev {e : Int} {p : Nat} (hp : p < l.length) (hpe : (p : Int) < e) : ∀ (d q : Nat), 6 - q ≤ d → q ≤ 6 → (∀ r, r < q → l.getD p 0 ≠ ([40, 41, 91, 93, 123, 125] : List Int).getD r 0) → {t : Int × Bool × Bool × Bool} →
    (isBracket (l.getD p 0) = true → t = goT ((pair l p).map incl)) → (isBracket (l.getD p 0) = false → Ev (fun k => Z_match.l0 k l e ((p : Int) + 1)) t) → Ev (fun k => Z_match.l1 k l e (p : Int) (q : Int)) t := by
  have hsz := ok.size
  intro d
  induction d with
  | zero =>
    intro q hd hq hno t ht1 ht2
    obtain rfl : q = 6 := by omega
    have hb : isBracket (l.getD p 0) = false := by
      rcases Bool.eq_false_or_eq_true (isBracket (l.getD p 0)) with h | h
      · exfalso
        have h0 := hno 0 (by omega); have h1 := hno 1 (by omega); have h2 := hno 2 (by omega); have h3 := hno 3 (by omega); have h4 := hno 4 (by omega); have h5 := hno 5 (by omega)
        simp only [List.getD_cons_zero, List.getD_cons_succ] at h0 h1 h2 h3 h4 h5
        rcases six_cases h with h | h | h | h | h | h <;> contradiction
      · exact h
    refine Ev.step (fun k => rfl) ?_
    simp only [Z_match.l1]
    refine Ev.neg (by omega) ?_
    rw [w64 (n := (p : Int) + 1) (by omega) (by omega)]
    exact ht2 hb
  | succ d ih =>
    intro q hd hq hno t ht1 ht2
    by_cases h6 : q < 6
    · refine Ev.step (fun k => rfl) ?_
      simp only [Z_match.l1]
      refine Ev.pos (by omega) (Ev.pos (by omega) (Ev.pos (by omega) (Ev.pos (by omega) ?_)))
      rw [rd_nat, six_bt q h6, (six_xor q h6).1, (six_xor q h6).2]
      by_cases he : l.getD p 0 = ([40, 41, 91, 93, 123, 125] : List Int).getD q 0
      · refine Ev.pos he ?_
        have hx : ([1, 0, 3, 2, 5, 4] : List Nat).getD q 0 < 6 := by
          have : ∀ q : Nat, q < 6 → ([1, 0, 3, 2, 5, 4] : List Nat).getD q 0 < 6 := by decide
          exact this q h6
        refine Ev.pos (by omega) (Ev.pos (by omega) ?_)
        rw [six_bt _ hx]
        have fwd : ∀ {o c : Int}, ((o = 40 ∧ c = 41) ∨ (o = 91 ∧ c = 93) ∨ (o = 123 ∧ c = 125)) → l.getD p 0 = o → Ev (fun k => (Z_closes.f k l (p : Int) o c true).bind fun b => some (b.1, b.2.1, b.2.2.1, b.2.2.2)) t := fun {o c} hcase ho => by
          have hoc : o ≠ c := by rcases hcase with ⟨rfl, rfl⟩ | ⟨rfl, rfl⟩ | ⟨rfl, rfl⟩ <;> decide
          have hbr : isBracket (l.getD p 0) = true := by rw [ho]; rcases hcase with ⟨rfl, rfl⟩ | ⟨rfl, rfl⟩ | ⟨rfl, rfl⟩ <;> decide
          rw [ht1 hbr, (pair_both hp hcase).1 ho]
          refine Ev.bind (a := goT ((deepFrom l o c 0 p).map incl)) ?_ (Ev.now _)
          simp only [Z_closes.f]
          exact rfwd_ev ok hoc _ p 0 (Nat.le_refl _) (by omega) (by omega) (by omega)
        have bwd : ∀ {o c : Int}, ((o = 40 ∧ c = 41) ∨ (o = 91 ∧ c = 93) ∨ (o = 123 ∧ c = 125)) → l.getD p 0 = c → Ev (fun k => (Z_closes.f k l (p : Int) c o false).bind fun b => some (b.1, b.2.1, b.2.2.1, b.2.2.2)) t := fun {o c} hcase hc => by
          have hoc : o ≠ c := by rcases hcase with ⟨rfl, rfl⟩ | ⟨rfl, rfl⟩ | ⟨rfl, rfl⟩ <;> decide
          have hbr : isBracket (l.getD p 0) = true := by rw [hc]; rcases hcase with ⟨rfl, rfl⟩ | ⟨rfl, rfl⟩ | ⟨rfl, rfl⟩ <;> decide
          rw [ht1 hbr, (pair_both hp hcase).2 hc]
          refine Ev.bind (a := goT ((deepTo l o c (p + 1) 0).map incl)) ?_ (Ev.now _)
          simp only [Z_closes.f]
          have := rbwd_ev ok hoc (p + 1) 0 hp (by omega) (by omega)
          rwa [show ((p + 1 : Nat) : Int) - 1 = (p : Int) by omega] at this
        rcases (by omega : q = 0 ∨ q = 1 ∨ q = 2 ∨ q = 3 ∨ q = 4 ∨ q = 5) with rfl | rfl | rfl | rfl | rfl | rfl
        · exact fwd (.inl ⟨rfl, rfl⟩) he
        · exact bwd (.inl ⟨rfl, rfl⟩) he
        · exact fwd (.inr (.inl ⟨rfl, rfl⟩)) he
        · exact bwd (.inr (.inl ⟨rfl, rfl⟩)) he
        · exact fwd (.inr (.inr ⟨rfl, rfl⟩)) he
        · exact bwd (.inr (.inr ⟨rfl, rfl⟩)) he
      · refine Ev.neg he ?_
        rw [w64 (n := (q : Int) + 1) (by omega) (by omega), show (q : Int) + 1 = ((q + 1 : Nat) : Int) by omega]
        refine ih (q + 1) (by omega) (by omega) (fun r hr => ?_) ht1 ht2
        rcases Nat.lt_or_ge r q with h | h
        · exact hno r h
        · rw [show r = q by omega]; exact he
    · exact ih q (by omega) hq hno ht1 ht2
theorem rmatch0_ev {i : Nat} (hi : i ≤ l.length) : ∀ (d p : Nat), fin l i - p ≤ d → i ≤ p → p ≤ fin l i → (∀ r, i ≤ r → r < p → isBracket (l.getD r 0) = false) → Ev (fun k => Z_match.l0 k l (fin l i : Int) (p : Int)) (goT ((pair l i).map incl)) := by
  have hsz := ok.size
  have hf := fin_le hi
  intro d
  have cutno : (∀ r, i ≤ r → r < fin l i → isBracket (l.getD r 0) = false) → pair l i = none := fun hno => by
    cases hB : bracketIn ((l.take (fin l i)).drop i) with
    | none => unfold pair; rw [hB]; rfl
    | some k =>
      obtain ⟨h1, h2, h3⟩ := pair_here hi hB
      rw [hno (i + k) (by omega) h1] at h2
      cases h2
  induction d with
  | zero =>
    intro p hd hip hp hno
    refine Ev.step (fun k => rfl) ?_
    simp only [Z_match.l0]
    refine Ev.neg (by omega) (Ev.is (Ev.now _) ?_)
    rw [cutno (fun r h1 h2 => hno r h1 (by omega))]
    rfl
  | succ d ih =>
    intro p hd hip hp hno
    refine Ev.step (fun k => rfl) ?_
    simp only [Z_match.l0]
    by_cases hlt : p < fin l i
    · refine Ev.pos (by omega) ?_
      refine rmatch1_ev ok (show p < l.length by omega) (by omega) _ 0 (Nat.le_refl _) (by omega) (fun r hr => by omega) (fun hb => ?_) (fun hb => ?_)
      · cases hB : bracketIn ((l.take (fin l i)).drop i) with
        | none =>
          exfalso
          have key : ∀ (m : List Int) (j : Nat), bracketIn m = none → j < m.length → isBracket (m.getD j 0) = false := by
            intro m
            induction m with
            | nil => intro j _ h; simp at h
            | cons x m ihm =>
              intro j hm hj
              simp only [bracketIn] at hm
              split at hm
              · cases hm
              · rename_i hx
                cases j with
                | zero => simpa using hx
                | succ j =>
                  rw [List.getD_cons_succ]
                  refine ihm j ?_ (by simpa using hj)
                  cases hmm : bracketIn m with
                  | none => rfl
                  | some z => rw [hmm] at hm; cases hm
          have := key _ (p - i) hB (by rw [List.length_drop, List.length_take]; omega)
          rw [getD_cut (by omega), show i + (p - i) = p by omega, hb] at this
          cases this
        | some k =>
          obtain ⟨h1, h2, h3⟩ := pair_here hi hB
          rcases Nat.lt_trichotomy (i + k) p with h | h | h
          · rw [hno _ (by omega) h] at h2; cases h2
          · rw [h3, h]
          · exfalso
            have := bracketIn_first hB (p - i) (by omega)
            rw [getD_cut (by omega), show i + (p - i) = p by omega, hb] at this
            cases this
      · have := ih (p + 1) (by omega) (by omega) (by omega) (fun r h1 h2 => by
          rcases Nat.lt_or_ge r p with h | h
          · exact hno r h1 h
          · rw [show r = p by omega]; exact hb)
        rwa [show ((p + 1 : Nat) : Int) = (p : Int) + 1 by omega] at this
    · refine Ev.neg (by omega) (Ev.is (Ev.now _) ?_)
      rw [cutno (fun r h1 h2 => hno r h1 (by omega))]
      rfl
where
  bracketIn_first : ∀ {m : List Int} {k : Nat}, bracketIn m = some k → ∀ j, j < k → isBracket (m.getD j 0) = false
    | [], k, h, j, hj => by cases h
    | c :: m, k, h, j, hj => by
      simp only [bracketIn] at h
      split at h
      · cases h; omega
      · rename_i hc
        cases hm : bracketIn m with
        | none => rw [hm] at h; cases h
        | some z =>
          rw [hm] at h
          cases h
          cases j with
          | zero => simpa using hc
          | succ j =>
            rw [List.getD_cons_succ]
            exact bracketIn_first hm j (by have : j + 1 < z + 1 := hj; omega)
theorem rmatch_ev {i : Nat} (hi : i ≤ l.length) (a : List Int) (c : Int) (op : Bool) : Ev (fun k => Z_match.f k l (i : Int)) (goT (motion l i [37] a c op)) := by
  rw [motion_pair]
  simp only [Z_match.f]
  exact Ev.bind (rend_ev ok hi) (rmatch0_ev ok hi _ i (Nat.le_refl _) (Nat.le_refl _) (fin_le hi).1 (fun r h1 h2 => by omega))
end
end Go.Proofs.Ytiibjehnlphabaa

end

section
namespace Go.Proofs.Ytiibjehnlphabaa
open Go.RowKit Go.Proofs.YtiibjehnlphabaaW.PrintWords Go.Proofs.YtiibjehnlphabaaW.PrintMore Q
set_option linter.unusedVariables false
set_option linter.unusedSimpArgs false
def LA (o : Option Gl) (t : Int × Bool × Bool × Bool) : Prop := (∃ u, o = some u ∧ t = goT (some u)) ∨ (o = none ∧ t.2.2.2 = false)
theorem LA_of (o : Option Gl) : LA o (goT o) := by
  cases o with
  | none => exact .inr ⟨rfl, rfl⟩
  | some u => exact .inl ⟨u, rfl, rfl⟩
theorem LA_some (u : Gl) : LA (some u) ((u.1 : Int), u.2.1, u.2.2, true) := .inl ⟨u, rfl, rfl⟩
def LeadsP (o : Option Gl) (w : World) (e : Ending) (w' : World) : Prop := ∃ t, LA o t ∧ e = .returned (.tuple #[.agg #[.int .i64 t.1, .bool t.2.1, .bool t.2.2.1], .bool t.2.2.2]) ∧ Below w.heap.size w w'
section
variable {w w0 w1 : World} {A : Option Addr} {c : Nat} {l : List Int} {A2 : Option Addr} {c2 : Nat} {a : List Int} {cn : Int} {i : Nat} {key : ByteArray}
theorem c_rstart (h : Sl w A c l) (hi : i ≤ l.length) : Calls Try.prog 50 #[.slice A l.length c, .int .i64 (i : Int)] w fun e w' => e = .returned (.int .i64 (start l i : Int)) ∧ Drawn0 w w' := by
  obtain ⟨k, e⟩ := (rstart_ev h.ok hi).rounds
  exact Z_start.calls k A c l i _ w h.reads h.cap e
theorem c_rend (h : Sl w A c l) (hi : i ≤ l.length) : Calls Try.prog 51 #[.slice A l.length c, .int .i64 (i : Int)] w fun e w' => e = .returned (.int .i64 (fin l i : Int)) ∧ Drawn0 w w' := by
  obtain ⟨k, e⟩ := (rend_ev h.ok hi).rounds
  exact Z_end.calls k A c l i _ w h.reads h.cap e
theorem c_rlast (h : Sl w A c l) (hi : i ≤ l.length) : Calls Try.prog 52 #[.slice A l.length c, .int .i64 (i : Int)] w fun e w' => e = .returned (.int .i64 (lastSz l i : Int)) ∧ Below w.heap.size w w' := by
  obtain ⟨k, e⟩ := (rlast_ev h.ok hi).rounds
  exact X_Last.calls k A c l i _ w h.reads h.cap e
theorem c_rsize (h : Sl w A c l) (i : Nat) : Calls Try.prog 53 #[.slice A l.length c, .int .i64 (i : Int)] w fun e w' => e = .returned (.int .i64 (sz l i : Int)) ∧ Below w.heap.size w w' := by
  obtain ⟨k, e⟩ := (rsize_ev h.ok i).rounds
  exact Z_size.calls k A c l i _ w h.reads h.cap e
theorem c_rplace (h : Sl w A c l) (at_ : Int) : Calls Try.prog 40 #[.slice A l.length c, .int .i64 at_] w fun e w' => e = .returned (.int .i64 (place l at_ : Int)) ∧ Below w.heap.size w w' := by
  obtain ⟨k, e⟩ := (rplace_ev h.ok at_).rounds
  exact Z_place.calls k A c l at_ _ w h.reads h.cap e
theorem c_rRest (h : Sl w A c l) (hb : begins l i = true) : Calls Try.prog 30 #[.slice A l.length c, .int .i64 (i : Int)] w fun e w' => e = .returned (.int .i64 (rest l i : Int)) ∧ Below w.heap.size w w' := by
  obtain ⟨k, e⟩ := (rRestB h.ok hb).rounds
  exact Z_Rest.calls k A c l i _ w h.reads h.cap e
theorem c_rFirst (h : Sl w A c l) (hb : begins l i = true) : Calls Try.prog 31 #[.slice A l.length c, .int .i64 (i : Int)] w fun e w' => e = .returned (.int .i64 (first l i : Int)) ∧ Below w.heap.size w w' := by
  obtain ⟨k, e⟩ := (rFirstB h.ok hb).rounds
  exact Z_First.calls k A c l i _ w h.reads h.cap e
theorem c_rPlace (h : Sl w A c l) (hb : begins l i = true) (q : Nat) (hq : (q : Int) ≤ 9223372036854775807) : Calls Try.prog 34 #[.slice A l.length c, .int .i64 (i : Int), .int .i64 (q : Int)] w fun e w' => e = .returned (.int .i64 (colAt l i q : Int)) ∧ Below w.heap.size w w' := by
  obtain ⟨k, e⟩ := (rPlaceB h.ok hb q hq).rounds
  exact Z_Place.calls k A c l i q _ w h.reads h.cap e
theorem c_rempty (h : Sl w A c l) (hi : i ≤ l.length) (up : Bool) (n : Nat) (hn : (n : Int) ≤ 9223372036854775807) : Calls Try.prog 81 #[.slice A l.length c, .int .i64 (i : Int), .bool up, .int .i64 (n : Int)] w fun e w' => e = .returned (.int .i64 ((if up = true then paraBackN l n i else paraN l n i : Nat) : Int)) ∧ Drawn0 w w' := by
  obtain ⟨k, e⟩ := (rempty_ev h.ok hi up n hn).rounds
  exact Z_empty.calls k A c l i up n _ w h.reads h.cap e
theorem c_rlines (h : Sl w A c l) (ha : Sl w A2 c2 a) {n : Int} {t : Int × Bool × Bool × Bool} (hev : Ev (fun k => Z_lines.f k l (i : Int) key a cn n) t) : Calls Try.prog 78 #[.slice A l.length c, .int .i64 (i : Int), .agg #[.string key, .slice A2 a.length c2, .int .i64 cn], .int .i64 n] w fun e w' => e = .returned (.tuple #[.agg #[.int .i64 t.1, .bool t.2.1, .bool t.2.2.1], .bool t.2.2.2]) ∧ Below w.heap.size w w' := by
  obtain ⟨k, e⟩ := hev.rounds
  exact Z_lines.calls k A c l i key A2 c2 a cn n _ _ _ _ w h.reads h.cap ha.reads ha.cap e
theorem c_rwords (h : Sl w A c l) (ha : Sl w A2 c2 a) {n : Int} {op : Bool} {t : Int × Bool × Bool × Bool} (hev : Ev (fun k => Z_words.f k l (i : Int) key a cn n op) t) : Calls Try.prog 79 #[.slice A l.length c, .int .i64 (i : Int), .agg #[.string key, .slice A2 a.length c2, .int .i64 cn], .int .i64 n, .bool op] w fun e w' => e = .returned (.tuple #[.agg #[.int .i64 t.1, .bool t.2.1, .bool t.2.2.1], .bool t.2.2.2]) ∧ Below w.heap.size w w' := by
  obtain ⟨k, e⟩ := hev.rounds
  exact Z_words.calls k A c l i key A2 c2 a cn n op _ _ _ _ w h.reads h.cap ha.reads ha.cap e
theorem c_rfind (h : Sl w A c l) (ha : Sl w A2 c2 a) {n : Int} {t : Int × Bool × Bool × Bool} (hev : Ev (fun k => Z_find.f k l (i : Int) key a cn n) t) : Calls Try.prog 80 #[.slice A l.length c, .int .i64 (i : Int), .agg #[.string key, .slice A2 a.length c2, .int .i64 cn], .int .i64 n] w fun e w' => e = .returned (.tuple #[.agg #[.int .i64 t.1, .bool t.2.1, .bool t.2.2.1], .bool t.2.2.2]) ∧ Below w.heap.size w w' := by
  obtain ⟨k, e⟩ := hev.rounds
  exact Z_find.calls k A c l i key A2 c2 a cn n _ _ _ _ w h.reads h.cap ha.reads ha.cap e
theorem c_rmatch (h : Sl w A c l) {t : Int × Bool × Bool × Bool} (hev : Ev (fun k => Z_match.f k l (i : Int)) t) : Calls Try.prog 82 #[.slice A l.length c, .int .i64 (i : Int)] w fun e w' => e = .returned (.tuple #[.agg #[.int .i64 t.1, .bool t.2.1, .bool t.2.2.1], .bool t.2.2.2]) ∧ Below w.heap.size w w' := by
  obtain ⟨k, e⟩ := hev.rounds
  exact Z_match.calls k A c l i _ _ _ _ w h.reads h.cap e
structure Ks (w0 w : World) (A : Option Addr) (c : Nat) (l : List Int) (A2 : Option Addr) (c2 : Nat) (a : List Int) (cn : Int) (key : ByteArray) : Prop where
  sl : Sl w A c l
  sa : Sl w A2 c2 a
  bel : Below w0.heap.size w0 w
  m : w.heap[w0.heap.size]? = some (.cells #[.string key, .slice A2 a.length c2, .int .i64 cn] 34 (0, 0))
  r : w.heap[w0.heap.size + 1]? = some (.cells #[.int .i64 0, .bool false, .bool false] 31 (0, 0))
theorem heap_lt {w : World} {b : Nat} {o : Obj} (h : w.heap[b]? = some o) : b < w.heap.size := by
  rcases Nat.lt_or_ge b w.heap.size with hlt | hge
  · exact hlt
  · rw [Array.getElem?_eq_none hge] at h; cases h
theorem Ks.begin_ (hS : Sl w A c l) (hA : Sl w A2 c2 a) (key : ByteArray) (cn : Int) :
    Ks w ((w.alloc (.cells #[.string key, .slice A2 a.length c2, .int .i64 cn] 34)).alloc (.cells #[.int .i64 0, .bool false, .bool false] 31)) A c l A2 c2 a cn key := by
  have hb : Below w.heap.size w ((w.alloc (.cells #[.string key, .slice A2 a.length c2, .int .i64 cn] 34)).alloc (.cells #[.int .i64 0, .bool false, .bool false] 31)) := below_alloc (below_alloc (Below.refl _ _) _) _
  refine ⟨hS.below hb, hA.below hb, hb, ?_, ?_⟩
  · unfold World.alloc; simp [Array.getElem?_push, Array.getElem_push]
  · unfold World.alloc; simp [Array.getElem?_push, Array.getElem_push]
theorem Ks.two (h : Ks w0 w A c l A2 c2 a cn key) (hb : Below w.heap.size w w1) : Ks w0 w1 A c l A2 c2 a cn key :=
  ⟨h.sl.below hb, h.sa.below hb, h.bel.trans (hb.mono h.bel.size), (hb.block _ (heap_lt h.m)).trans h.m, (hb.block _ (heap_lt h.r)).trans h.r⟩
theorem Ks.cells (h : Ks w0 w A c l A2 c2 a cn key) : w.cell? ⟨w0.heap.size, 0, none⟩ = some (.string key) ∧ w.cell? ⟨w0.heap.size, 1, none⟩ = some (.slice A2 a.length c2) ∧ w.cell? ⟨w0.heap.size, 2, none⟩ = some (.int .i64 cn) ∧
    w.cell? ⟨w0.heap.size + 1, 0, none⟩ = some (.int .i64 0) ∧ w.cell? ⟨w0.heap.size + 1, 1, none⟩ = some (.bool false) ∧ w.cell? ⟨w0.heap.size + 1, 2, none⟩ = some (.bool false) ∧
    w.frozen? ⟨w0.heap.size + 1, 0, none⟩ = false ∧ w.frozen? ⟨w0.heap.size + 1, 1, none⟩ = false ∧ w.frozen? ⟨w0.heap.size + 1, 2, none⟩ = false := by
  have h1 := h.m
  have h2 := h.r
  exact ⟨by simp [World.cell?, h1], by simp [World.cell?, h1], by simp [World.cell?, h1], by simp [World.cell?, h2], by simp [World.cell?, h2], by simp [World.cell?, h2], by simp [World.frozen?, h2], by simp [World.frozen?, h2], by simp [World.frozen?, h2]⟩
def laidX (w : World) (b : Nat) (x : Int) (y z : Bool) : World := ((w.setCell ⟨b, 0, none⟩ (.int .i64 x)).setCell ⟨b, 1, none⟩ (.bool y)).setCell ⟨b, 2, none⟩ (.bool z)
theorem leads_post {tm : Array Value} {x : Int} {y z k : Bool} {o : Option Gl} (h : Ks w0 w A c l A2 c2 a cn key) (ht : tm[10]? = some (.pointer (some ⟨w0.heap.size + 1, 0, none⟩))) (hk : tm[11]? = some (.bool k)) (hA : LA o (x, y, z, k)) :
    bodyPost Try.prog Try.f41 (LeadsP o w0) .ret { tmps := tm, defers := [] } (laidX w (w0.heap.size + 1) x y z) := by
  have h2 := h.r
  have c0 : (laidX w (w0.heap.size + 1) x y z).cell? ⟨w0.heap.size + 1, 0, none⟩ = some (.int .i64 x) := by simp [laidX, World.cell?, World.setCell, Array.getElem?_modify, h2]
  have c1 : (laidX w (w0.heap.size + 1) x y z).cell? ⟨w0.heap.size + 1, 1, none⟩ = some (.bool y) := by simp [laidX, World.cell?, World.setCell, Array.getElem?_modify, h2]
  have c2 : (laidX w (w0.heap.size + 1) x y z).cell? ⟨w0.heap.size + 1, 2, none⟩ = some (.bool z) := by simp [laidX, World.cell?, World.setCell, Array.getElem?_modify, h2]
  have hb : Below w0.heap.size w0 (laidX w (w0.heap.size + 1) x y z) := ((h.bel.setCell (p := ⟨w0.heap.size + 1, 0, none⟩) (by simp) _).setCell (p := ⟨w0.heap.size + 1, 1, none⟩) (by simp) _).setCell (p := ⟨w0.heap.size + 1, 2, none⟩) (by simp) _
  generalize laidX w (w0.heap.size + 1) x y z = w' at *
  have hu := Try.underlying31
  refine bodyPost_ret (v := .tuple #[.agg #[.int .i64 x, .bool y, .bool z], .bool k]) ?_ rfl ⟨(x, y, z, k), hA, rfl, hb⟩
  simp [results, Try.results41, go_sem, ht, hk, c0, c1, c2]
end
section
variable {w : World} {A : Option Addr} {c : Nat} {l : List Int} {A2 : Option Addr} {c2 : Nat} {a : List Int} {cn : Int} {i : Nat} {key : ByteArray} {op : Bool}
set_option maxHeartbeats 1000000 in
set_option maxRecDepth 100000 in
theorem lead_j (hS : Sl w A c l) (hA : Sl w A2 c2 a) (hb : begins l i = true) (hc1 : -9223372036854775808 ≤ cn) (hc2 : cn ≤ 9223372036854775807) :
    Calls Try.prog 41 #[.slice A l.length c, .int .i64 (i : Int), .agg #[.string ⟨#[106]⟩, .slice A2 a.length c2, .int .i64 cn], .int .i64 (times cn : Int), .bool op] w (LeadsP (motion l i [106] a cn op) w) := by
  have HEV := Aside0.mk (rlines_j hS.ok hb ⟨#[106]⟩ a cn hc2 op (by rw [Lib.toList_data]))
  rw [Lib.toList_data] at HEV
  have hi := begins_le hb
  have hsz := hS.ok.size
  have HB := Aside0.mk hb
  have HS := Aside0.mk (Ks.begin_ hS hA ⟨#[106]⟩ cn)
  clear hS hA hb
  go_enter Try.func41, Try.ntmps41
  go_wp2_with fail
  refine (c_rstart HS.out.sl hi).mono ?_
  rintro e w1 ⟨rfl, hb⟩
  have HT := Aside0.mk (HS.out.two hb.below)
  clear hb HS
  have HS := HT
  clear HT
  go_wp2_with fail
  refine (c_rend HS.out.sl hi).mono ?_
  rintro e w2 ⟨rfl, hb⟩
  have HT := Aside0.mk (HS.out.two hb.below)
  clear hb HS
  have HS := HT
  clear HT
  obtain ⟨m0, m1, m2, r0, r1, r2, z0, z1, z2⟩ := HS.out.cells
  go_wp2_with fail
  generalize motion l i _ a cn op = o at *
  refine (c_rlines HS.out.sl HS.out.sa HEV.out).mono ?_
  rintro e w4 ⟨rfl, hb⟩
  have HT := Aside0.mk (HS.out.two hb)
  clear hb HS m0 m1 m2 r0 r1 r2 z0 z1 z2
  have HS := HT
  clear HT
  obtain ⟨m0, m1, m2, r0, r1, r2, z0, z1, z2⟩ := HS.out.cells
  go_wp2_with fail
  exact leads_post HS.out rfl rfl (LA_of o)

set_option maxHeartbeats 1000000 in
set_option maxRecDepth 100000 in
theorem lead_k (hS : Sl w A c l) (hA : Sl w A2 c2 a) (hb : begins l i = true) (hc1 : -9223372036854775808 ≤ cn) (hc2 : cn ≤ 9223372036854775807) :
    Calls Try.prog 41 #[.slice A l.length c, .int .i64 (i : Int), .agg #[.string ⟨#[107]⟩, .slice A2 a.length c2, .int .i64 cn], .int .i64 (times cn : Int), .bool op] w (LeadsP (motion l i [107] a cn op) w) := by
  have HEV := Aside0.mk (rlines_k hS.ok hb ⟨#[107]⟩ a cn hc2 op (by rw [Lib.toList_data]))
  rw [Lib.toList_data] at HEV
  have hi := begins_le hb
  have hsz := hS.ok.size
  have HB := Aside0.mk hb
  have HS := Aside0.mk (Ks.begin_ hS hA ⟨#[107]⟩ cn)
  clear hS hA hb
  go_enter Try.func41, Try.ntmps41
  go_wp2_with fail
  refine (c_rstart HS.out.sl hi).mono ?_
  rintro e w1 ⟨rfl, hb⟩
  have HT := Aside0.mk (HS.out.two hb.below)
  clear hb HS
  have HS := HT
  clear HT
  go_wp2_with fail
  refine (c_rend HS.out.sl hi).mono ?_
  rintro e w2 ⟨rfl, hb⟩
  have HT := Aside0.mk (HS.out.two hb.below)
  clear hb HS
  have HS := HT
  clear HT
  obtain ⟨m0, m1, m2, r0, r1, r2, z0, z1, z2⟩ := HS.out.cells
  go_wp2_with fail
  generalize motion l i _ a cn op = o at *
  refine (c_rlines HS.out.sl HS.out.sa HEV.out).mono ?_
  rintro e w5 ⟨rfl, hb⟩
  have HT := Aside0.mk (HS.out.two hb)
  clear hb HS m0 m1 m2 r0 r1 r2 z0 z1 z2
  have HS := HT
  clear HT
  obtain ⟨m0, m1, m2, r0, r1, r2, z0, z1, z2⟩ := HS.out.cells
  go_wp2_with fail
  exact leads_post HS.out rfl rfl (LA_of o)

set_option maxHeartbeats 1000000 in
set_option maxRecDepth 100000 in
theorem lead_G (hS : Sl w A c l) (hA : Sl w A2 c2 a) (hb : begins l i = true) (hc1 : -9223372036854775808 ≤ cn) (hc2 : cn ≤ 9223372036854775807) :
    Calls Try.prog 41 #[.slice A l.length c, .int .i64 (i : Int), .agg #[.string ⟨#[71]⟩, .slice A2 a.length c2, .int .i64 cn], .int .i64 (times cn : Int), .bool op] w (LeadsP (motion l i [71] a cn op) w) := by
  have HEV := Aside0.mk (rlines_G hS.ok (i := i) ⟨#[71]⟩ a cn hc2 op (by rw [Lib.toList_data]))
  rw [Lib.toList_data] at HEV
  have hi := begins_le hb
  have hsz := hS.ok.size
  have HB := Aside0.mk hb
  have HS := Aside0.mk (Ks.begin_ hS hA ⟨#[71]⟩ cn)
  clear hS hA hb
  go_enter Try.func41, Try.ntmps41
  go_wp2_with fail
  refine (c_rstart HS.out.sl hi).mono ?_
  rintro e w1 ⟨rfl, hb⟩
  have HT := Aside0.mk (HS.out.two hb.below)
  clear hb HS
  have HS := HT
  clear HT
  go_wp2_with fail
  refine (c_rend HS.out.sl hi).mono ?_
  rintro e w2 ⟨rfl, hb⟩
  have HT := Aside0.mk (HS.out.two hb.below)
  clear hb HS
  have HS := HT
  clear HT
  obtain ⟨m0, m1, m2, r0, r1, r2, z0, z1, z2⟩ := HS.out.cells
  go_wp2_with fail
  generalize motion l i _ a cn op = o at *
  refine (c_rlines HS.out.sl HS.out.sa HEV.out).mono ?_
  rintro e w6 ⟨rfl, hb⟩
  have HT := Aside0.mk (HS.out.two hb)
  clear hb HS m0 m1 m2 r0 r1 r2 z0 z1 z2
  have HS := HT
  clear HT
  obtain ⟨m0, m1, m2, r0, r1, r2, z0, z1, z2⟩ := HS.out.cells
  go_wp2_with fail
  exact leads_post HS.out rfl rfl (LA_of o)

set_option maxHeartbeats 1000000 in
set_option maxRecDepth 100000 in
theorem lead_gg (hS : Sl w A c l) (hA : Sl w A2 c2 a) (hb : begins l i = true) (hc1 : -9223372036854775808 ≤ cn) (hc2 : cn ≤ 9223372036854775807) :
    Calls Try.prog 41 #[.slice A l.length c, .int .i64 (i : Int), .agg #[.string ⟨#[103, 103]⟩, .slice A2 a.length c2, .int .i64 cn], .int .i64 (times cn : Int), .bool op] w (LeadsP (motion l i [103, 103] a cn op) w) := by
  have HEV := Aside0.mk (rlines_gg hS.ok (i := i) ⟨#[103, 103]⟩ a cn hc2 op (by rw [Lib.toList_data]))
  rw [Lib.toList_data] at HEV
  have hi := begins_le hb
  have hsz := hS.ok.size
  have HB := Aside0.mk hb
  have HS := Aside0.mk (Ks.begin_ hS hA ⟨#[103, 103]⟩ cn)
  clear hS hA hb
  go_enter Try.func41, Try.ntmps41
  go_wp2_with fail
  refine (c_rstart HS.out.sl hi).mono ?_
  rintro e w1 ⟨rfl, hb⟩
  have HT := Aside0.mk (HS.out.two hb.below)
  clear hb HS
  have HS := HT
  clear HT
  go_wp2_with fail
  refine (c_rend HS.out.sl hi).mono ?_
  rintro e w2 ⟨rfl, hb⟩
  have HT := Aside0.mk (HS.out.two hb.below)
  clear hb HS
  have HS := HT
  clear HT
  obtain ⟨m0, m1, m2, r0, r1, r2, z0, z1, z2⟩ := HS.out.cells
  go_wp2_with fail
  generalize motion l i _ a cn op = o at *
  refine (c_rlines HS.out.sl HS.out.sa HEV.out).mono ?_
  rintro e w7 ⟨rfl, hb⟩
  have HT := Aside0.mk (HS.out.two hb)
  clear hb HS m0 m1 m2 r0 r1 r2 z0 z1 z2
  have HS := HT
  clear HT
  obtain ⟨m0, m1, m2, r0, r1, r2, z0, z1, z2⟩ := HS.out.cells
  go_wp2_with fail
  exact leads_post HS.out rfl rfl (LA_of o)

set_option maxHeartbeats 1000000 in
set_option maxRecDepth 100000 in
theorem lead_dollar (hS : Sl w A c l) (hA : Sl w A2 c2 a) (hb : begins l i = true) (hc1 : -9223372036854775808 ≤ cn) (hc2 : cn ≤ 9223372036854775807) :
    Calls Try.prog 41 #[.slice A l.length c, .int .i64 (i : Int), .agg #[.string ⟨#[36]⟩, .slice A2 a.length c2, .int .i64 cn], .int .i64 (times cn : Int), .bool op] w (LeadsP (motion l i [36] a cn op) w) := by
  have HEV := Aside0.mk (rlines_dollar hS.ok hb ⟨#[36]⟩ a cn hc2 op (by rw [Lib.toList_data]))
  rw [Lib.toList_data] at HEV
  have hi := begins_le hb
  have hsz := hS.ok.size
  have HB := Aside0.mk hb
  have HS := Aside0.mk (Ks.begin_ hS hA ⟨#[36]⟩ cn)
  clear hS hA hb
  go_enter Try.func41, Try.ntmps41
  go_wp2_with fail
  refine (c_rstart HS.out.sl hi).mono ?_
  rintro e w1 ⟨rfl, hb⟩
  have HT := Aside0.mk (HS.out.two hb.below)
  clear hb HS
  have HS := HT
  clear HT
  go_wp2_with fail
  refine (c_rend HS.out.sl hi).mono ?_
  rintro e w2 ⟨rfl, hb⟩
  have HT := Aside0.mk (HS.out.two hb.below)
  clear hb HS
  have HS := HT
  clear HT
  obtain ⟨m0, m1, m2, r0, r1, r2, z0, z1, z2⟩ := HS.out.cells
  go_wp2_with fail
  generalize motion l i _ a cn op = o at *
  refine (c_rlines HS.out.sl HS.out.sa HEV.out).mono ?_
  rintro e w8 ⟨rfl, hb⟩
  have HT := Aside0.mk (HS.out.two hb)
  clear hb HS m0 m1 m2 r0 r1 r2 z0 z1 z2
  have HS := HT
  clear HT
  obtain ⟨m0, m1, m2, r0, r1, r2, z0, z1, z2⟩ := HS.out.cells
  go_wp2_with fail
  exact leads_post HS.out rfl rfl (LA_of o)

set_option maxHeartbeats 1000000 in
set_option maxRecDepth 100000 in
theorem lead_w (hS : Sl w A c l) (hA : Sl w A2 c2 a) (hb : begins l i = true) (hc1 : -9223372036854775808 ≤ cn) (hc2 : cn ≤ 9223372036854775807) :
    Calls Try.prog 41 #[.slice A l.length c, .int .i64 (i : Int), .agg #[.string ⟨#[119]⟩, .slice A2 a.length c2, .int .i64 cn], .int .i64 (times cn : Int), .bool op] w (LeadsP (motion l i [119] a cn op) w) := by
  obtain ⟨t, hev, hla⟩ := rwords_w hS.ok hb ⟨#[119]⟩ a cn hc2 op (by rw [Lib.toList_data])
  rw [Lib.toList_data] at hla
  have HEV := Aside0.mk hev
  have HLA := Aside0.mk hla
  clear hev hla
  have hi := begins_le hb
  have hsz := hS.ok.size
  have HB := Aside0.mk hb
  have HS := Aside0.mk (Ks.begin_ hS hA ⟨#[119]⟩ cn)
  clear hS hA hb
  go_enter Try.func41, Try.ntmps41
  go_wp2_with fail
  refine (c_rstart HS.out.sl hi).mono ?_
  rintro e w1 ⟨rfl, hb⟩
  have HT := Aside0.mk (HS.out.two hb.below)
  clear hb HS
  have HS := HT
  clear HT
  go_wp2_with fail
  refine (c_rend HS.out.sl hi).mono ?_
  rintro e w2 ⟨rfl, hb⟩
  have HT := Aside0.mk (HS.out.two hb.below)
  clear hb HS
  have HS := HT
  clear HT
  obtain ⟨m0, m1, m2, r0, r1, r2, z0, z1, z2⟩ := HS.out.cells
  go_wp2_with fail
  generalize motion l i _ a cn op = o at *
  refine (c_rwords HS.out.sl HS.out.sa HEV.out).mono ?_
  rintro e w9 ⟨rfl, hb⟩
  have HT := Aside0.mk (HS.out.two hb)
  clear hb HS m0 m1 m2 r0 r1 r2 z0 z1 z2
  have HS := HT
  clear HT
  obtain ⟨m0, m1, m2, r0, r1, r2, z0, z1, z2⟩ := HS.out.cells
  go_wp2_with fail
  exact leads_post HS.out rfl rfl (HLA.out)

set_option maxHeartbeats 1000000 in
set_option maxRecDepth 100000 in
theorem lead_e (hS : Sl w A c l) (hA : Sl w A2 c2 a) (hb : begins l i = true) (hc1 : -9223372036854775808 ≤ cn) (hc2 : cn ≤ 9223372036854775807) :
    Calls Try.prog 41 #[.slice A l.length c, .int .i64 (i : Int), .agg #[.string ⟨#[101]⟩, .slice A2 a.length c2, .int .i64 cn], .int .i64 (times cn : Int), .bool op] w (LeadsP (motion l i [101] a cn op) w) := by
  obtain ⟨t, hev, hla⟩ := rwords_e hS.ok hb ⟨#[101]⟩ a cn hc2 op (by rw [Lib.toList_data])
  rw [Lib.toList_data] at hla
  have HEV := Aside0.mk hev
  have HLA := Aside0.mk hla
  clear hev hla
  have hi := begins_le hb
  have hsz := hS.ok.size
  have HB := Aside0.mk hb
  have HS := Aside0.mk (Ks.begin_ hS hA ⟨#[101]⟩ cn)
  clear hS hA hb
  go_enter Try.func41, Try.ntmps41
  go_wp2_with fail
  refine (c_rstart HS.out.sl hi).mono ?_
  rintro e w1 ⟨rfl, hb⟩
  have HT := Aside0.mk (HS.out.two hb.below)
  clear hb HS
  have HS := HT
  clear HT
  go_wp2_with fail
  refine (c_rend HS.out.sl hi).mono ?_
  rintro e w2 ⟨rfl, hb⟩
  have HT := Aside0.mk (HS.out.two hb.below)
  clear hb HS
  have HS := HT
  clear HT
  obtain ⟨m0, m1, m2, r0, r1, r2, z0, z1, z2⟩ := HS.out.cells
  go_wp2_with fail
  generalize motion l i _ a cn op = o at *
  refine (c_rwords HS.out.sl HS.out.sa HEV.out).mono ?_
  rintro e w10 ⟨rfl, hb⟩
  have HT := Aside0.mk (HS.out.two hb)
  clear hb HS m0 m1 m2 r0 r1 r2 z0 z1 z2
  have HS := HT
  clear HT
  obtain ⟨m0, m1, m2, r0, r1, r2, z0, z1, z2⟩ := HS.out.cells
  go_wp2_with fail
  exact leads_post HS.out rfl rfl (HLA.out)

set_option maxHeartbeats 1000000 in
set_option maxRecDepth 100000 in
theorem lead_b (hS : Sl w A c l) (hA : Sl w A2 c2 a) (hb : begins l i = true) (hc1 : -9223372036854775808 ≤ cn) (hc2 : cn ≤ 9223372036854775807) :
    Calls Try.prog 41 #[.slice A l.length c, .int .i64 (i : Int), .agg #[.string ⟨#[98]⟩, .slice A2 a.length c2, .int .i64 cn], .int .i64 (times cn : Int), .bool op] w (LeadsP (motion l i [98] a cn op) w) := by
  obtain ⟨t, hev, hla⟩ := rwords_b hS.ok hb ⟨#[98]⟩ a cn hc2 op (by rw [Lib.toList_data])
  rw [Lib.toList_data] at hla
  have HEV := Aside0.mk hev
  have HLA := Aside0.mk hla
  clear hev hla
  have hi := begins_le hb
  have hsz := hS.ok.size
  have HB := Aside0.mk hb
  have HS := Aside0.mk (Ks.begin_ hS hA ⟨#[98]⟩ cn)
  clear hS hA hb
  go_enter Try.func41, Try.ntmps41
  go_wp2_with fail
  refine (c_rstart HS.out.sl hi).mono ?_
  rintro e w1 ⟨rfl, hb⟩
  have HT := Aside0.mk (HS.out.two hb.below)
  clear hb HS
  have HS := HT
  clear HT
  go_wp2_with fail
  refine (c_rend HS.out.sl hi).mono ?_
  rintro e w2 ⟨rfl, hb⟩
  have HT := Aside0.mk (HS.out.two hb.below)
  clear hb HS
  have HS := HT
  clear HT
  obtain ⟨m0, m1, m2, r0, r1, r2, z0, z1, z2⟩ := HS.out.cells
  go_wp2_with fail
  generalize motion l i _ a cn op = o at *
  refine (c_rwords HS.out.sl HS.out.sa HEV.out).mono ?_
  rintro e w11 ⟨rfl, hb⟩
  have HT := Aside0.mk (HS.out.two hb)
  clear hb HS m0 m1 m2 r0 r1 r2 z0 z1 z2
  have HS := HT
  clear HT
  obtain ⟨m0, m1, m2, r0, r1, r2, z0, z1, z2⟩ := HS.out.cells
  go_wp2_with fail
  exact leads_post HS.out rfl rfl (HLA.out)

set_option maxHeartbeats 1000000 in
set_option maxRecDepth 100000 in
theorem lead_f (hS : Sl w A c l) (hA : Sl w A2 c2 a) (hb : begins l i = true) (hc1 : -9223372036854775808 ≤ cn) (hc2 : cn ≤ 9223372036854775807) :
    Calls Try.prog 41 #[.slice A l.length c, .int .i64 (i : Int), .agg #[.string ⟨#[102]⟩, .slice A2 a.length c2, .int .i64 cn], .int .i64 (times cn : Int), .bool op] w (LeadsP (motion l i [102] a cn op) w) := by
  have HEV := Aside0.mk (rfind_f hS.ok ⟨#[102]⟩ a cn hA.ok (begins_le hb) hc2 op (by rw [Lib.toList_data]))
  rw [Lib.toList_data] at HEV
  have hi := begins_le hb
  have hsz := hS.ok.size
  have HB := Aside0.mk hb
  have HS := Aside0.mk (Ks.begin_ hS hA ⟨#[102]⟩ cn)
  clear hS hA hb
  go_enter Try.func41, Try.ntmps41
  go_wp2_with fail
  refine (c_rstart HS.out.sl hi).mono ?_
  rintro e w1 ⟨rfl, hb⟩
  have HT := Aside0.mk (HS.out.two hb.below)
  clear hb HS
  have HS := HT
  clear HT
  go_wp2_with fail
  refine (c_rend HS.out.sl hi).mono ?_
  rintro e w2 ⟨rfl, hb⟩
  have HT := Aside0.mk (HS.out.two hb.below)
  clear hb HS
  have HS := HT
  clear HT
  obtain ⟨m0, m1, m2, r0, r1, r2, z0, z1, z2⟩ := HS.out.cells
  go_wp2_with fail
  generalize motion l i _ a cn op = o at *
  refine (c_rfind HS.out.sl HS.out.sa HEV.out).mono ?_
  rintro e w12 ⟨rfl, hb⟩
  have HT := Aside0.mk (HS.out.two hb)
  clear hb HS m0 m1 m2 r0 r1 r2 z0 z1 z2
  have HS := HT
  clear HT
  obtain ⟨m0, m1, m2, r0, r1, r2, z0, z1, z2⟩ := HS.out.cells
  go_wp2_with fail
  exact leads_post HS.out rfl rfl (LA_of o)

set_option maxHeartbeats 1000000 in
set_option maxRecDepth 100000 in
theorem lead_t (hS : Sl w A c l) (hA : Sl w A2 c2 a) (hb : begins l i = true) (hc1 : -9223372036854775808 ≤ cn) (hc2 : cn ≤ 9223372036854775807) :
    Calls Try.prog 41 #[.slice A l.length c, .int .i64 (i : Int), .agg #[.string ⟨#[116]⟩, .slice A2 a.length c2, .int .i64 cn], .int .i64 (times cn : Int), .bool op] w (LeadsP (motion l i [116] a cn op) w) := by
  have HEV := Aside0.mk (rfind_t hS.ok ⟨#[116]⟩ a cn hA.ok (begins_le hb) hc2 op (by rw [Lib.toList_data]))
  rw [Lib.toList_data] at HEV
  have hi := begins_le hb
  have hsz := hS.ok.size
  have HB := Aside0.mk hb
  have HS := Aside0.mk (Ks.begin_ hS hA ⟨#[116]⟩ cn)
  clear hS hA hb
  go_enter Try.func41, Try.ntmps41
  go_wp2_with fail
  refine (c_rstart HS.out.sl hi).mono ?_
  rintro e w1 ⟨rfl, hb⟩
  have HT := Aside0.mk (HS.out.two hb.below)
  clear hb HS
  have HS := HT
  clear HT
  go_wp2_with fail
  refine (c_rend HS.out.sl hi).mono ?_
  rintro e w2 ⟨rfl, hb⟩
  have HT := Aside0.mk (HS.out.two hb.below)
  clear hb HS
  have HS := HT
  clear HT
  obtain ⟨m0, m1, m2, r0, r1, r2, z0, z1, z2⟩ := HS.out.cells
  go_wp2_with fail
  generalize motion l i _ a cn op = o at *
  refine (c_rfind HS.out.sl HS.out.sa HEV.out).mono ?_
  rintro e w13 ⟨rfl, hb⟩
  have HT := Aside0.mk (HS.out.two hb)
  clear hb HS m0 m1 m2 r0 r1 r2 z0 z1 z2
  have HS := HT
  clear HT
  obtain ⟨m0, m1, m2, r0, r1, r2, z0, z1, z2⟩ := HS.out.cells
  go_wp2_with fail
  exact leads_post HS.out rfl rfl (LA_of o)

set_option maxHeartbeats 1000000 in
set_option maxRecDepth 100000 in
theorem lead_F (hS : Sl w A c l) (hA : Sl w A2 c2 a) (hb : begins l i = true) (hc1 : -9223372036854775808 ≤ cn) (hc2 : cn ≤ 9223372036854775807) :
    Calls Try.prog 41 #[.slice A l.length c, .int .i64 (i : Int), .agg #[.string ⟨#[70]⟩, .slice A2 a.length c2, .int .i64 cn], .int .i64 (times cn : Int), .bool op] w (LeadsP (motion l i [70] a cn op) w) := by
  have HEV := Aside0.mk (rfind_F hS.ok ⟨#[70]⟩ a cn hA.ok (begins_le hb) hc2 op (by rw [Lib.toList_data]))
  rw [Lib.toList_data] at HEV
  have hi := begins_le hb
  have hsz := hS.ok.size
  have HB := Aside0.mk hb
  have HS := Aside0.mk (Ks.begin_ hS hA ⟨#[70]⟩ cn)
  clear hS hA hb
  go_enter Try.func41, Try.ntmps41
  go_wp2_with fail
  refine (c_rstart HS.out.sl hi).mono ?_
  rintro e w1 ⟨rfl, hb⟩
  have HT := Aside0.mk (HS.out.two hb.below)
  clear hb HS
  have HS := HT
  clear HT
  go_wp2_with fail
  refine (c_rend HS.out.sl hi).mono ?_
  rintro e w2 ⟨rfl, hb⟩
  have HT := Aside0.mk (HS.out.two hb.below)
  clear hb HS
  have HS := HT
  clear HT
  obtain ⟨m0, m1, m2, r0, r1, r2, z0, z1, z2⟩ := HS.out.cells
  go_wp2_with fail
  generalize motion l i _ a cn op = o at *
  refine (c_rfind HS.out.sl HS.out.sa HEV.out).mono ?_
  rintro e w14 ⟨rfl, hb⟩
  have HT := Aside0.mk (HS.out.two hb)
  clear hb HS m0 m1 m2 r0 r1 r2 z0 z1 z2
  have HS := HT
  clear HT
  obtain ⟨m0, m1, m2, r0, r1, r2, z0, z1, z2⟩ := HS.out.cells
  go_wp2_with fail
  exact leads_post HS.out rfl rfl (LA_of o)

set_option maxHeartbeats 1000000 in
set_option maxRecDepth 100000 in
theorem lead_T (hS : Sl w A c l) (hA : Sl w A2 c2 a) (hb : begins l i = true) (hc1 : -9223372036854775808 ≤ cn) (hc2 : cn ≤ 9223372036854775807) :
    Calls Try.prog 41 #[.slice A l.length c, .int .i64 (i : Int), .agg #[.string ⟨#[84]⟩, .slice A2 a.length c2, .int .i64 cn], .int .i64 (times cn : Int), .bool op] w (LeadsP (motion l i [84] a cn op) w) := by
  have HEV := Aside0.mk (rfind_T hS.ok ⟨#[84]⟩ a cn hA.ok (begins_le hb) hc2 op (by rw [Lib.toList_data]))
  rw [Lib.toList_data] at HEV
  have hi := begins_le hb
  have hsz := hS.ok.size
  have HB := Aside0.mk hb
  have HS := Aside0.mk (Ks.begin_ hS hA ⟨#[84]⟩ cn)
  clear hS hA hb
  go_enter Try.func41, Try.ntmps41
  go_wp2_with fail
  refine (c_rstart HS.out.sl hi).mono ?_
  rintro e w1 ⟨rfl, hb⟩
  have HT := Aside0.mk (HS.out.two hb.below)
  clear hb HS
  have HS := HT
  clear HT
  go_wp2_with fail
  refine (c_rend HS.out.sl hi).mono ?_
  rintro e w2 ⟨rfl, hb⟩
  have HT := Aside0.mk (HS.out.two hb.below)
  clear hb HS
  have HS := HT
  clear HT
  obtain ⟨m0, m1, m2, r0, r1, r2, z0, z1, z2⟩ := HS.out.cells
  go_wp2_with fail
  generalize motion l i _ a cn op = o at *
  refine (c_rfind HS.out.sl HS.out.sa HEV.out).mono ?_
  rintro e w15 ⟨rfl, hb⟩
  have HT := Aside0.mk (HS.out.two hb)
  clear hb HS m0 m1 m2 r0 r1 r2 z0 z1 z2
  have HS := HT
  clear HT
  obtain ⟨m0, m1, m2, r0, r1, r2, z0, z1, z2⟩ := HS.out.cells
  go_wp2_with fail
  exact leads_post HS.out rfl rfl (LA_of o)

set_option maxHeartbeats 1000000 in
set_option maxRecDepth 100000 in
theorem lead_pair (hS : Sl w A c l) (hA : Sl w A2 c2 a) (hb : begins l i = true) (hc1 : -9223372036854775808 ≤ cn) (hc2 : cn ≤ 9223372036854775807) :
    Calls Try.prog 41 #[.slice A l.length c, .int .i64 (i : Int), .agg #[.string ⟨#[37]⟩, .slice A2 a.length c2, .int .i64 cn], .int .i64 (times cn : Int), .bool op] w (LeadsP (motion l i [37] a cn op) w) := by
  have HEV := Aside0.mk (rmatch_ev hS.ok (begins_le hb) a cn op)
  have hi := begins_le hb
  have hsz := hS.ok.size
  have HB := Aside0.mk hb
  have HS := Aside0.mk (Ks.begin_ hS hA ⟨#[37]⟩ cn)
  clear hS hA hb
  go_enter Try.func41, Try.ntmps41
  go_wp2_with fail
  refine (c_rstart HS.out.sl hi).mono ?_
  rintro e w1 ⟨rfl, hb⟩
  have HT := Aside0.mk (HS.out.two hb.below)
  clear hb HS
  have HS := HT
  clear HT
  go_wp2_with fail
  refine (c_rend HS.out.sl hi).mono ?_
  rintro e w2 ⟨rfl, hb⟩
  have HT := Aside0.mk (HS.out.two hb.below)
  clear hb HS
  have HS := HT
  clear HT
  obtain ⟨m0, m1, m2, r0, r1, r2, z0, z1, z2⟩ := HS.out.cells
  go_wp2_with fail
  generalize motion l i _ a cn op = o at *
  refine (c_rmatch HS.out.sl HEV.out).mono ?_
  rintro e w16 ⟨rfl, hb⟩
  have HT := Aside0.mk (HS.out.two hb)
  clear hb HS m0 m1 m2 r0 r1 r2 z0 z1 z2
  have HS := HT
  clear HT
  obtain ⟨m0, m1, m2, r0, r1, r2, z0, z1, z2⟩ := HS.out.cells
  go_wp2_with fail
  exact leads_post HS.out rfl rfl (LA_of o)

set_option maxHeartbeats 1000000 in
set_option maxRecDepth 100000 in
theorem lead_0 (hS : Sl w A c l) (hA : Sl w A2 c2 a) (hb : begins l i = true) (hc1 : -9223372036854775808 ≤ cn) (hc2 : cn ≤ 9223372036854775807) :
    Calls Try.prog 41 #[.slice A l.length c, .int .i64 (i : Int), .agg #[.string ⟨#[48]⟩, .slice A2 a.length c2, .int .i64 cn], .int .i64 (times cn : Int), .bool op] w (LeadsP (motion l i [48] a cn op) w) := by
  rw [motion_0]
  have hi := begins_le hb
  have hsz := hS.ok.size
  have HB := Aside0.mk hb
  have HS := Aside0.mk (Ks.begin_ hS hA ⟨#[48]⟩ cn)
  clear hS hA hb
  go_enter Try.func41, Try.ntmps41
  go_wp2_with fail
  refine (c_rstart HS.out.sl hi).mono ?_
  rintro e w1 ⟨rfl, hb⟩
  have HT := Aside0.mk (HS.out.two hb.below)
  clear hb HS
  have HS := HT
  clear HT
  go_wp2_with fail
  refine (c_rend HS.out.sl hi).mono ?_
  rintro e w2 ⟨rfl, hb⟩
  have HT := Aside0.mk (HS.out.two hb.below)
  clear hb HS
  have HS := HT
  clear HT
  obtain ⟨m0, m1, m2, r0, r1, r2, z0, z1, z2⟩ := HS.out.cells
  go_wp2_with fail
  exact leads_post HS.out rfl rfl (LA_some (plain_ (start l i)))

set_option maxHeartbeats 1000000 in
set_option maxRecDepth 100000 in
theorem lead_caret (hS : Sl w A c l) (hA : Sl w A2 c2 a) (hb : begins l i = true) (hc1 : -9223372036854775808 ≤ cn) (hc2 : cn ≤ 9223372036854775807) :
    Calls Try.prog 41 #[.slice A l.length c, .int .i64 (i : Int), .agg #[.string ⟨#[94]⟩, .slice A2 a.length c2, .int .i64 cn], .int .i64 (times cn : Int), .bool op] w (LeadsP (motion l i [94] a cn op) w) := by
  rw [motion_caret]
  have hi := begins_le hb
  have hsz := hS.ok.size
  have HB := Aside0.mk hb
  have HS := Aside0.mk (Ks.begin_ hS hA ⟨#[94]⟩ cn)
  clear hS hA hb
  go_enter Try.func41, Try.ntmps41
  go_wp2_with fail
  refine (c_rstart HS.out.sl hi).mono ?_
  rintro e w1 ⟨rfl, hb⟩
  have HT := Aside0.mk (HS.out.two hb.below)
  clear hb HS
  have HS := HT
  clear HT
  go_wp2_with fail
  refine (c_rend HS.out.sl hi).mono ?_
  rintro e w2 ⟨rfl, hb⟩
  have HT := Aside0.mk (HS.out.two hb.below)
  clear hb HS
  have HS := HT
  clear HT
  obtain ⟨m0, m1, m2, r0, r1, r2, z0, z1, z2⟩ := HS.out.cells
  go_wp2_with fail
  refine (c_rFirst HS.out.sl HB.out).mono ?_
  rintro e w17 ⟨rfl, hb⟩
  have HT := Aside0.mk (HS.out.two hb)
  clear hb HS m0 m1 m2 r0 r1 r2 z0 z1 z2
  have HS := HT
  clear HT
  obtain ⟨m0, m1, m2, r0, r1, r2, z0, z1, z2⟩ := HS.out.cells
  go_wp2_with fail
  exact leads_post HS.out rfl rfl (LA_some (plain_ (first l i)))

set_option maxHeartbeats 1000000 in
set_option maxRecDepth 100000 in
theorem lead_bar (hS : Sl w A c l) (hA : Sl w A2 c2 a) (hb : begins l i = true) (hc1 : -9223372036854775808 ≤ cn) (hc2 : cn ≤ 9223372036854775807) :
    Calls Try.prog 41 #[.slice A l.length c, .int .i64 (i : Int), .agg #[.string ⟨#[124]⟩, .slice A2 a.length c2, .int .i64 cn], .int .i64 (times cn : Int), .bool op] w (LeadsP (motion l i [124] a cn op) w) := by
  rw [motion_bar]
  have ht1 := times_pos cn
  have ht2 := (times_le cn).2 hc2
  have et : (times cn : Int) - 1 = ((times cn - 1 : Nat) : Int) := by omega
  have ET := Aside0.mk et
  clear et
  have hi := begins_le hb
  have hsz := hS.ok.size
  have HB := Aside0.mk hb
  have HS := Aside0.mk (Ks.begin_ hS hA ⟨#[124]⟩ cn)
  clear hS hA hb
  go_enter Try.func41, Try.ntmps41
  go_wp2_with fail
  refine (c_rstart HS.out.sl hi).mono ?_
  rintro e w1 ⟨rfl, hb⟩
  have HT := Aside0.mk (HS.out.two hb.below)
  clear hb HS
  have HS := HT
  clear HT
  go_wp2_with fail
  refine (c_rend HS.out.sl hi).mono ?_
  rintro e w2 ⟨rfl, hb⟩
  have HT := Aside0.mk (HS.out.two hb.below)
  clear hb HS
  have HS := HT
  clear HT
  obtain ⟨m0, m1, m2, r0, r1, r2, z0, z1, z2⟩ := HS.out.cells
  go_wp2_with fail
  refine (ET.out ▸ c_rPlace HS.out.sl HB.out (times cn - 1) (by omega)).mono ?_
  rintro e w3 ⟨rfl, hb⟩
  have HT := Aside0.mk (HS.out.two hb)
  clear hb HS m0 m1 m2 r0 r1 r2 z0 z1 z2
  have HS := HT
  clear HT
  go_wp2_with fail
  refine (c_rRest HS.out.sl (colAt_spec hi).1).mono ?_
  rintro e w18 ⟨rfl, hb⟩
  have HT := Aside0.mk (HS.out.two hb)
  clear hb HS
  have HS := HT
  clear HT
  obtain ⟨m0, m1, m2, r0, r1, r2, z0, z1, z2⟩ := HS.out.cells
  go_wp2_with fail
  exact leads_post HS.out rfl rfl (LA_some (plain_ (rest l (colAt l i (times cn - 1)))))
end
end Go.Proofs.Ytiibjehnlphabaa

end

section
namespace Go.Proofs.Ytiibjehnlphabaa
open Go.RowKit Go.Proofs.YtiibjehnlphabaaW.PrintWords Go.Proofs.YtiibjehnlphabaaW.PrintMore Q
set_option linter.unusedVariables false
set_option linter.unusedSimpArgs false
section
variable {w : World} {A : Option Addr} {c : Nat} {l : List Int} {A2 : Option Addr} {c2 : Nat} {a : List Int} {cn : Int} {i : Nat} {key : ByteArray} {op : Bool}
theorem LA_h1 {q : Nat} (op : Bool) (a : List Int) (h : start l i < i) (he : q = lefts l (start l i) (times cn) i) : LA (motion l i [104] a cn op) ((q : Int), false, false, true) := by
  rw [motion_h, if_pos h, he]
  exact .inl ⟨_, rfl, rfl⟩
theorem LA_h0 {q : Int} (op : Bool) (a : List Int) (h : ¬ start l i < i) : LA (motion l i [104] a cn op) (q, false, false, false) := by
  rw [motion_h, if_neg h]
  exact .inr ⟨rfl, rfl⟩
theorem LA_l1 {q e : Nat} {op : Bool} (a : List Int) (hE : e = (if op = true then fin l i else rest l (fin l i))) (h : i < e) (he : q = along l e (times cn) i) : LA (motion l i [108] a cn op) ((q : Int), false, false, true) := by
  rw [motion_l, ← hE, if_pos h, he]
  exact .inl ⟨_, rfl, rfl⟩
theorem LA_l0 {q : Int} {e : Nat} {op : Bool} (a : List Int) (hE : e = (if op = true then fin l i else rest l (fin l i))) (h : ¬ i < e) : LA (motion l i [108] a cn op) (q, false, false, false) := by
  rw [motion_l, ← hE, if_neg h]
  exact .inr ⟨rfl, rfl⟩
theorem c_rup (h : Sl w A c l) (hi : i ≤ l.length) (n : Nat) (hn : (n : Int) ≤ 9223372036854775807) : Calls Try.prog 81 #[.slice A l.length c, .int .i64 (i : Int), .bool true, .int .i64 (n : Int)] w fun e w' => e = .returned (.int .i64 (paraBackN l n i : Int)) ∧ Drawn0 w w' := by
  have := c_rempty h hi true n hn
  simpa using this
theorem c_rdown (h : Sl w A c l) (hi : i ≤ l.length) (n : Nat) (hn : (n : Int) ≤ 9223372036854775807) : Calls Try.prog 81 #[.slice A l.length c, .int .i64 (i : Int), .bool false, .int .i64 (n : Int)] w fun e w' => e = .returned (.int .i64 (paraN l n i : Int)) ∧ Drawn0 w w' := by
  have := c_rempty h hi false n hn
  simpa using this
set_option maxHeartbeats 2000000 in
set_option maxRecDepth 100000 in
theorem lead_h1 (hS : Sl w A c l) (hA : Sl w A2 c2 a) (hb : begins l i = true) (hc1 : -9223372036854775808 ≤ cn) (hc2 : cn ≤ 9223372036854775807) (hsi : start l i < i) :
    Calls Try.prog 41 #[.slice A l.length c, .int .i64 (i : Int), .agg #[.string ⟨#[104]⟩, .slice A2 a.length c2, .int .i64 cn], .int .i64 (times cn : Int), .bool op] w (LeadsP (motion l i [104] a cn op) w) := by
  have ht1 := times_pos cn
  have ht2 := (times_le cn).2 hc2
  have hsl := start_le l i
  have tt : decide ((start l i : Int) < (i : Int)) = true := decide_eq_true (by omega)
  have tt' : decide (start l i < i) = true := decide_eq_true (by omega)
  have hi := begins_le hb
  have hsz := hS.ok.size
  have HB := Aside0.mk hb
  have HS := Aside0.mk (Ks.begin_ hS hA ⟨#[104]⟩ cn)
  clear hS hA hb
  go_enter Try.func41, Try.ntmps41
  go_wp2_with fail
  refine (c_rstart HS.out.sl hi).mono ?_
  rintro e w1 ⟨rfl, hb⟩
  have HT := Aside0.mk (HS.out.two hb.below)
  clear hb HS
  have HS := HT
  clear HT
  go_wp2_with fail
  refine (c_rend HS.out.sl hi).mono ?_
  rintro e w2 ⟨rfl, hb⟩
  have HT := Aside0.mk (HS.out.two hb.below)
  clear hb HS
  have HS := HT
  clear HT
  obtain ⟨m0, m1, m2, r0, r1, r2, z0, z1, z2⟩ := HS.out.cells
  go_wp2_with fail
  clear m0 m1 m2 r0 r1 r2 z0 z1 z2
  go_loopw [14, 15] (fun v14 v15 wr => ∃ (p j : Nat), v14 = .int .i64 (p : Int) ∧ v15 = .int .i64 (j : Int) ∧ j ≤ times cn ∧ p ≤ i ∧ start l i ≤ p ∧ Aside0 (begins l p = true) ∧ Aside0 (lefts l (start l i) (times cn - j) p = lefts l (start l i) (times cn) i) ∧ Aside0 (Ks w wr A c l A2 c2 a cn ⟨#[104]⟩)) (fun _ v15 _ => times cn - (intOf v15).toNat)
  case atStart => exact ⟨i, 0, rfl, rfl, Nat.zero_le _, Nat.le_refl _, hsl, HB, ⟨rfl⟩, HS⟩
  case round =>
    clear HS
    obtain ⟨p, j, rfl, rfl, hj, hp, hsp, HPB, HL, HS⟩ := hrel
    have HST : Aside0 (¬ (j < times cn ∧ start l i < p) → p = lefts l (start l i) (times cn) i) := ⟨fun h => by rw [← HL.out, lefts_end l (start l i) (by omega)]⟩
    by_cases h1 : j < times cn
    · have t1 : decide ((j : Int) < (times cn : Int)) = true := decide_eq_true (by omega)
      have t1' : decide (j < times cn) = true := decide_eq_true (by omega)
      by_cases h2 : start l i < p
      · have t2 : decide ((start l i : Int) < (p : Int)) = true := decide_eq_true (by omega)
        have t2' : decide (start l i < p) = true := decide_eq_true (by omega)
        have hlp := prev_ge (start_begins hi) HPB.out h2
        have hlp2 := lastSz_pos (l := l) (i := p) (by omega) (by omega)
        have HPV := Aside0.mk hlp.2.2.1
        have hpv := hlp.1
        clear hlp
        go_wp2_with fail
        refine (c_rlast HS.out.sl (show p ≤ l.length by omega)).mono ?_
        rintro e w19 ⟨rfl, hb⟩
        have HT := Aside0.mk (HS.out.two hb)
        clear hb HS
        have HS := HT
        clear HT
        go_wp2_with fail
        go_roundw
        case rel => exact ⟨p - lastSz l p, j + 1, by rw [show ((p - lastSz l p : Nat) : Int) = (p : Int) - (lastSz l p : Int) by omega], by go_num, by omega, by omega, hpv, HPV, ⟨by rw [← HL.out, lefts_more l (start l i) h1 h2]⟩, HS⟩
        case measure => simp [intOf]; omega
      · have t2 : decide ((start l i : Int) < (p : Int)) = false := decide_eq_false (by omega)
        have t2' : decide (start l i < p) = false := decide_eq_false (by omega)
        have he := Aside0.mk (HST.out (fun h => h2 h.2))
        obtain ⟨m0, m1, m2, r0, r1, r2, z0, z1, z2⟩ := HS.out.cells
        go_wp2_with fail
        exact leads_post HS.out rfl rfl (LA_h1 op a hsi he.out)
    · have t1 : decide ((j : Int) < (times cn : Int)) = false := decide_eq_false (by omega)
      have t1' : decide (j < times cn) = false := decide_eq_false (by omega)
      have he := Aside0.mk (HST.out (fun h => h1 h.1))
      obtain ⟨m0, m1, m2, r0, r1, r2, z0, z1, z2⟩ := HS.out.cells
      go_wp2_with fail
      exact leads_post HS.out rfl rfl (LA_h1 op a hsi he.out)

set_option maxHeartbeats 2000000 in
set_option maxRecDepth 100000 in
theorem lead_h0 (hS : Sl w A c l) (hA : Sl w A2 c2 a) (hb : begins l i = true) (hc1 : -9223372036854775808 ≤ cn) (hc2 : cn ≤ 9223372036854775807) (hsi : ¬ start l i < i) :
    Calls Try.prog 41 #[.slice A l.length c, .int .i64 (i : Int), .agg #[.string ⟨#[104]⟩, .slice A2 a.length c2, .int .i64 cn], .int .i64 (times cn : Int), .bool op] w (LeadsP (motion l i [104] a cn op) w) := by
  have ht1 := times_pos cn
  have ht2 := (times_le cn).2 hc2
  have hsl := start_le l i
  have tt : decide ((start l i : Int) < (i : Int)) = false := decide_eq_false (by omega)
  have tt' : decide (start l i < i) = false := decide_eq_false (by omega)
  have hi := begins_le hb
  have hsz := hS.ok.size
  have HB := Aside0.mk hb
  have HS := Aside0.mk (Ks.begin_ hS hA ⟨#[104]⟩ cn)
  clear hS hA hb
  go_enter Try.func41, Try.ntmps41
  go_wp2_with fail
  refine (c_rstart HS.out.sl hi).mono ?_
  rintro e w1 ⟨rfl, hb⟩
  have HT := Aside0.mk (HS.out.two hb.below)
  clear hb HS
  have HS := HT
  clear HT
  go_wp2_with fail
  refine (c_rend HS.out.sl hi).mono ?_
  rintro e w2 ⟨rfl, hb⟩
  have HT := Aside0.mk (HS.out.two hb.below)
  clear hb HS
  have HS := HT
  clear HT
  obtain ⟨m0, m1, m2, r0, r1, r2, z0, z1, z2⟩ := HS.out.cells
  go_wp2_with fail
  clear m0 m1 m2 r0 r1 r2 z0 z1 z2
  go_loopw [14, 15] (fun v14 v15 wr => ∃ (p j : Nat), v14 = .int .i64 (p : Int) ∧ v15 = .int .i64 (j : Int) ∧ j ≤ times cn ∧ p ≤ i ∧ start l i ≤ p ∧ Aside0 (begins l p = true) ∧ Aside0 (lefts l (start l i) (times cn - j) p = lefts l (start l i) (times cn) i) ∧ Aside0 (Ks w wr A c l A2 c2 a cn ⟨#[104]⟩)) (fun _ v15 _ => times cn - (intOf v15).toNat)
  case atStart => exact ⟨i, 0, rfl, rfl, Nat.zero_le _, Nat.le_refl _, hsl, HB, ⟨rfl⟩, HS⟩
  case round =>
    clear HS
    obtain ⟨p, j, rfl, rfl, hj, hp, hsp, HPB, HL, HS⟩ := hrel
    have HST : Aside0 (¬ (j < times cn ∧ start l i < p) → p = lefts l (start l i) (times cn) i) := ⟨fun h => by rw [← HL.out, lefts_end l (start l i) (by omega)]⟩
    by_cases h1 : j < times cn
    · have t1 : decide ((j : Int) < (times cn : Int)) = true := decide_eq_true (by omega)
      have t1' : decide (j < times cn) = true := decide_eq_true (by omega)
      by_cases h2 : start l i < p
      · have t2 : decide ((start l i : Int) < (p : Int)) = true := decide_eq_true (by omega)
        have t2' : decide (start l i < p) = true := decide_eq_true (by omega)
        have hlp := prev_ge (start_begins hi) HPB.out h2
        have hlp2 := lastSz_pos (l := l) (i := p) (by omega) (by omega)
        have HPV := Aside0.mk hlp.2.2.1
        have hpv := hlp.1
        clear hlp
        go_wp2_with fail
        refine (c_rlast HS.out.sl (show p ≤ l.length by omega)).mono ?_
        rintro e w20 ⟨rfl, hb⟩
        have HT := Aside0.mk (HS.out.two hb)
        clear hb HS
        have HS := HT
        clear HT
        go_wp2_with fail
        go_roundw
        case rel => exact ⟨p - lastSz l p, j + 1, by rw [show ((p - lastSz l p : Nat) : Int) = (p : Int) - (lastSz l p : Int) by omega], by go_num, by omega, by omega, hpv, HPV, ⟨by rw [← HL.out, lefts_more l (start l i) h1 h2]⟩, HS⟩
        case measure => simp [intOf]; omega
      · have t2 : decide ((start l i : Int) < (p : Int)) = false := decide_eq_false (by omega)
        have t2' : decide (start l i < p) = false := decide_eq_false (by omega)
        have he := Aside0.mk (HST.out (fun h => h2 h.2))
        obtain ⟨m0, m1, m2, r0, r1, r2, z0, z1, z2⟩ := HS.out.cells
        go_wp2_with fail
        exact leads_post HS.out rfl rfl (LA_h0 op a hsi)
    · have t1 : decide ((j : Int) < (times cn : Int)) = false := decide_eq_false (by omega)
      have t1' : decide (j < times cn) = false := decide_eq_false (by omega)
      have he := Aside0.mk (HST.out (fun h => h1 h.1))
      obtain ⟨m0, m1, m2, r0, r1, r2, z0, z1, z2⟩ := HS.out.cells
      go_wp2_with fail
      exact leads_post HS.out rfl rfl (LA_h0 op a hsi)

set_option maxHeartbeats 2000000 in
set_option maxRecDepth 100000 in
theorem lead_l1t (hS : Sl w A c l) (hA : Sl w A2 c2 a) (hb : begins l i = true) (hc1 : -9223372036854775808 ≤ cn) (hc2 : cn ≤ 9223372036854775807) (hsi : i < fin l i) :
    Calls Try.prog 41 #[.slice A l.length c, .int .i64 (i : Int), .agg #[.string ⟨#[108]⟩, .slice A2 a.length c2, .int .i64 cn], .int .i64 (times cn : Int), .bool true] w (LeadsP (motion l i [108] a cn true) w) := by
  have ht1 := times_pos cn
  have ht2 := (times_le cn).2 hc2
  have hel : fin l i ≤ l.length := by
    have h1 := fin_le (begins_le hb)
    omega
  have tt : decide ((i : Int) < ((fin l i) : Int)) = true := decide_eq_true (by omega)
  have tt' : decide (i < (fin l i)) = true := decide_eq_true (by omega)
  have hi := begins_le hb
  have hsz := hS.ok.size
  have HB := Aside0.mk hb
  have HS := Aside0.mk (Ks.begin_ hS hA ⟨#[108]⟩ cn)
  clear hS hA hb
  go_enter Try.func41, Try.ntmps41
  go_wp2_with fail
  refine (c_rstart HS.out.sl hi).mono ?_
  rintro e w1 ⟨rfl, hb⟩
  have HT := Aside0.mk (HS.out.two hb.below)
  clear hb HS
  have HS := HT
  clear HT
  go_wp2_with fail
  refine (c_rend HS.out.sl hi).mono ?_
  rintro e w2 ⟨rfl, hb⟩
  have HT := Aside0.mk (HS.out.two hb.below)
  clear hb HS
  have HS := HT
  clear HT
  obtain ⟨m0, m1, m2, r0, r1, r2, z0, z1, z2⟩ := HS.out.cells
  go_wp2_with fail
  clear m0 m1 m2 r0 r1 r2 z0 z1 z2
  go_loopw [17, 18] (fun v17 v18 wr => ∃ (p j : Nat), v17 = .int .i64 (p : Int) ∧ v18 = .int .i64 (j : Int) ∧ j ≤ times cn ∧ p ≤ l.length ∧ Aside0 (along l (fin l i) (times cn - j) p = along l (fin l i) (times cn) i) ∧ Aside0 (Ks w wr A c l A2 c2 a cn ⟨#[108]⟩)) (fun _ v18 _ => times cn - (intOf v18).toNat)
  case atStart => exact ⟨i, 0, rfl, rfl, Nat.zero_le _, hi, ⟨rfl⟩, HS⟩
  case round =>
    clear HS
    obtain ⟨p, j, rfl, rfl, hj, hp, HL, HS⟩ := hrel
    have HST : Aside0 (¬ (j < times cn ∧ p < fin l i) → p = along l (fin l i) (times cn) i) := ⟨fun h => by rw [← HL.out, along_end l (fin l i) (by omega)]⟩
    by_cases h1 : j < times cn
    · have t1 : decide ((j : Int) < (times cn : Int)) = true := decide_eq_true (by omega)
      have t1' : decide (j < times cn) = true := decide_eq_true (by omega)
      by_cases h2 : p < fin l i
      · have t2 : decide ((p : Int) < ((fin l i) : Int)) = true := decide_eq_true (by omega)
        have t2' : decide (p < (fin l i)) = true := decide_eq_true (by omega)
        have hg := on_gt (show p < l.length by omega)
        have ho : ((on l p : Nat) : Int) = (p : Int) + (sz l p : Int) := by unfold on; omega
        have HO := Aside0.mk ho
        have hz : (p : Int) + (sz l p : Int) ≤ (l.length : Int) := by omega
        clear ho
        go_wp2_with fail
        refine (c_rsize HS.out.sl p).mono ?_
        rintro e w21 ⟨rfl, hb⟩
        have HT := Aside0.mk (HS.out.two hb)
        clear hb HS
        have HS := HT
        clear HT
        go_wp2_with fail
        go_roundw
        case rel => exact ⟨on l p, j + 1, by rw [HO.out], by go_num, by omega, by omega, ⟨by rw [← HL.out, along_more l (fin l i) h1 h2]⟩, HS⟩
        case measure => simp [intOf]; omega
      · have t2 : decide ((p : Int) < ((fin l i) : Int)) = false := decide_eq_false (by omega)
        have t2' : decide (p < (fin l i)) = false := decide_eq_false (by omega)
        have he := Aside0.mk (HST.out (fun h => h2 h.2))
        obtain ⟨m0, m1, m2, r0, r1, r2, z0, z1, z2⟩ := HS.out.cells
        go_wp2_with fail
        exact leads_post HS.out rfl rfl (LA_l1 a (e := fin l i) rfl hsi he.out)
    · have t1 : decide ((j : Int) < (times cn : Int)) = false := decide_eq_false (by omega)
      have t1' : decide (j < times cn) = false := decide_eq_false (by omega)
      have he := Aside0.mk (HST.out (fun h => h1 h.1))
      obtain ⟨m0, m1, m2, r0, r1, r2, z0, z1, z2⟩ := HS.out.cells
      go_wp2_with fail
      exact leads_post HS.out rfl rfl (LA_l1 a (e := fin l i) rfl hsi he.out)

set_option maxHeartbeats 2000000 in
set_option maxRecDepth 100000 in
theorem lead_l0t (hS : Sl w A c l) (hA : Sl w A2 c2 a) (hb : begins l i = true) (hc1 : -9223372036854775808 ≤ cn) (hc2 : cn ≤ 9223372036854775807) (hsi : ¬ i < fin l i) :
    Calls Try.prog 41 #[.slice A l.length c, .int .i64 (i : Int), .agg #[.string ⟨#[108]⟩, .slice A2 a.length c2, .int .i64 cn], .int .i64 (times cn : Int), .bool true] w (LeadsP (motion l i [108] a cn true) w) := by
  have ht1 := times_pos cn
  have ht2 := (times_le cn).2 hc2
  have hel : fin l i ≤ l.length := by
    have h1 := fin_le (begins_le hb)
    omega
  have tt : decide ((i : Int) < ((fin l i) : Int)) = false := decide_eq_false (by omega)
  have tt' : decide (i < (fin l i)) = false := decide_eq_false (by omega)
  have hi := begins_le hb
  have hsz := hS.ok.size
  have HB := Aside0.mk hb
  have HS := Aside0.mk (Ks.begin_ hS hA ⟨#[108]⟩ cn)
  clear hS hA hb
  go_enter Try.func41, Try.ntmps41
  go_wp2_with fail
  refine (c_rstart HS.out.sl hi).mono ?_
  rintro e w1 ⟨rfl, hb⟩
  have HT := Aside0.mk (HS.out.two hb.below)
  clear hb HS
  have HS := HT
  clear HT
  go_wp2_with fail
  refine (c_rend HS.out.sl hi).mono ?_
  rintro e w2 ⟨rfl, hb⟩
  have HT := Aside0.mk (HS.out.two hb.below)
  clear hb HS
  have HS := HT
  clear HT
  obtain ⟨m0, m1, m2, r0, r1, r2, z0, z1, z2⟩ := HS.out.cells
  go_wp2_with fail
  clear m0 m1 m2 r0 r1 r2 z0 z1 z2
  go_loopw [17, 18] (fun v17 v18 wr => ∃ (p j : Nat), v17 = .int .i64 (p : Int) ∧ v18 = .int .i64 (j : Int) ∧ j ≤ times cn ∧ p ≤ l.length ∧ Aside0 (along l (fin l i) (times cn - j) p = along l (fin l i) (times cn) i) ∧ Aside0 (Ks w wr A c l A2 c2 a cn ⟨#[108]⟩)) (fun _ v18 _ => times cn - (intOf v18).toNat)
  case atStart => exact ⟨i, 0, rfl, rfl, Nat.zero_le _, hi, ⟨rfl⟩, HS⟩
  case round =>
    clear HS
    obtain ⟨p, j, rfl, rfl, hj, hp, HL, HS⟩ := hrel
    have HST : Aside0 (¬ (j < times cn ∧ p < fin l i) → p = along l (fin l i) (times cn) i) := ⟨fun h => by rw [← HL.out, along_end l (fin l i) (by omega)]⟩
    by_cases h1 : j < times cn
    · have t1 : decide ((j : Int) < (times cn : Int)) = true := decide_eq_true (by omega)
      have t1' : decide (j < times cn) = true := decide_eq_true (by omega)
      by_cases h2 : p < fin l i
      · have t2 : decide ((p : Int) < ((fin l i) : Int)) = true := decide_eq_true (by omega)
        have t2' : decide (p < (fin l i)) = true := decide_eq_true (by omega)
        have hg := on_gt (show p < l.length by omega)
        have ho : ((on l p : Nat) : Int) = (p : Int) + (sz l p : Int) := by unfold on; omega
        have HO := Aside0.mk ho
        have hz : (p : Int) + (sz l p : Int) ≤ (l.length : Int) := by omega
        clear ho
        go_wp2_with fail
        refine (c_rsize HS.out.sl p).mono ?_
        rintro e w22 ⟨rfl, hb⟩
        have HT := Aside0.mk (HS.out.two hb)
        clear hb HS
        have HS := HT
        clear HT
        go_wp2_with fail
        go_roundw
        case rel => exact ⟨on l p, j + 1, by rw [HO.out], by go_num, by omega, by omega, ⟨by rw [← HL.out, along_more l (fin l i) h1 h2]⟩, HS⟩
        case measure => simp [intOf]; omega
      · have t2 : decide ((p : Int) < ((fin l i) : Int)) = false := decide_eq_false (by omega)
        have t2' : decide (p < (fin l i)) = false := decide_eq_false (by omega)
        have he := Aside0.mk (HST.out (fun h => h2 h.2))
        obtain ⟨m0, m1, m2, r0, r1, r2, z0, z1, z2⟩ := HS.out.cells
        go_wp2_with fail
        exact leads_post HS.out rfl rfl (LA_l0 a (e := fin l i) rfl hsi)
    · have t1 : decide ((j : Int) < (times cn : Int)) = false := decide_eq_false (by omega)
      have t1' : decide (j < times cn) = false := decide_eq_false (by omega)
      have he := Aside0.mk (HST.out (fun h => h1 h.1))
      obtain ⟨m0, m1, m2, r0, r1, r2, z0, z1, z2⟩ := HS.out.cells
      go_wp2_with fail
      exact leads_post HS.out rfl rfl (LA_l0 a (e := fin l i) rfl hsi)

set_option maxHeartbeats 2000000 in
set_option maxRecDepth 100000 in
theorem lead_l1f (hS : Sl w A c l) (hA : Sl w A2 c2 a) (hb : begins l i = true) (hc1 : -9223372036854775808 ≤ cn) (hc2 : cn ≤ 9223372036854775807) (hsi : i < rest l (fin l i)) :
    Calls Try.prog 41 #[.slice A l.length c, .int .i64 (i : Int), .agg #[.string ⟨#[108]⟩, .slice A2 a.length c2, .int .i64 cn], .int .i64 (times cn : Int), .bool false] w (LeadsP (motion l i [108] a cn false) w) := by
  have ht1 := times_pos cn
  have ht2 := (times_le cn).2 hc2
  have hel : rest l (fin l i) ≤ l.length := by
    have h1 := fin_le (begins_le hb)
    have h2 := rest_le h1.2; omega
  have tt : decide ((i : Int) < ((rest l (fin l i)) : Int)) = true := decide_eq_true (by omega)
  have tt' : decide (i < (rest l (fin l i))) = true := decide_eq_true (by omega)
  have hi := begins_le hb
  have hsz := hS.ok.size
  have HB := Aside0.mk hb
  have HS := Aside0.mk (Ks.begin_ hS hA ⟨#[108]⟩ cn)
  clear hS hA hb
  go_enter Try.func41, Try.ntmps41
  go_wp2_with fail
  refine (c_rstart HS.out.sl hi).mono ?_
  rintro e w1 ⟨rfl, hb⟩
  have HT := Aside0.mk (HS.out.two hb.below)
  clear hb HS
  have HS := HT
  clear HT
  go_wp2_with fail
  refine (c_rend HS.out.sl hi).mono ?_
  rintro e w2 ⟨rfl, hb⟩
  have HT := Aside0.mk (HS.out.two hb.below)
  clear hb HS
  have HS := HT
  clear HT
  obtain ⟨m0, m1, m2, r0, r1, r2, z0, z1, z2⟩ := HS.out.cells
  go_wp2_with fail
  refine (c_rRest HS.out.sl (fin_begins hi)).mono ?_
  rintro e w23 ⟨rfl, hb⟩
  have HT := Aside0.mk (HS.out.two hb)
  clear hb HS m0 m1 m2 r0 r1 r2 z0 z1 z2
  have HS := HT
  clear HT
  go_wp2_with fail
  go_loopw [17, 18] (fun v17 v18 wr => ∃ (p j : Nat), v17 = .int .i64 (p : Int) ∧ v18 = .int .i64 (j : Int) ∧ j ≤ times cn ∧ p ≤ l.length ∧ Aside0 (along l (rest l (fin l i)) (times cn - j) p = along l (rest l (fin l i)) (times cn) i) ∧ Aside0 (Ks w wr A c l A2 c2 a cn ⟨#[108]⟩)) (fun _ v18 _ => times cn - (intOf v18).toNat)
  case atStart => exact ⟨i, 0, rfl, rfl, Nat.zero_le _, hi, ⟨rfl⟩, HS⟩
  case round =>
    clear HS
    obtain ⟨p, j, rfl, rfl, hj, hp, HL, HS⟩ := hrel
    have HST : Aside0 (¬ (j < times cn ∧ p < rest l (fin l i)) → p = along l (rest l (fin l i)) (times cn) i) := ⟨fun h => by rw [← HL.out, along_end l (rest l (fin l i)) (by omega)]⟩
    by_cases h1 : j < times cn
    · have t1 : decide ((j : Int) < (times cn : Int)) = true := decide_eq_true (by omega)
      have t1' : decide (j < times cn) = true := decide_eq_true (by omega)
      by_cases h2 : p < rest l (fin l i)
      · have t2 : decide ((p : Int) < ((rest l (fin l i)) : Int)) = true := decide_eq_true (by omega)
        have t2' : decide (p < (rest l (fin l i))) = true := decide_eq_true (by omega)
        have hg := on_gt (show p < l.length by omega)
        have ho : ((on l p : Nat) : Int) = (p : Int) + (sz l p : Int) := by unfold on; omega
        have HO := Aside0.mk ho
        have hz : (p : Int) + (sz l p : Int) ≤ (l.length : Int) := by omega
        clear ho
        go_wp2_with fail
        refine (c_rsize HS.out.sl p).mono ?_
        rintro e w24 ⟨rfl, hb⟩
        have HT := Aside0.mk (HS.out.two hb)
        clear hb HS
        have HS := HT
        clear HT
        go_wp2_with fail
        go_roundw
        case rel => exact ⟨on l p, j + 1, by rw [HO.out], by go_num, by omega, by omega, ⟨by rw [← HL.out, along_more l (rest l (fin l i)) h1 h2]⟩, HS⟩
        case measure => simp [intOf]; omega
      · have t2 : decide ((p : Int) < ((rest l (fin l i)) : Int)) = false := decide_eq_false (by omega)
        have t2' : decide (p < (rest l (fin l i))) = false := decide_eq_false (by omega)
        have he := Aside0.mk (HST.out (fun h => h2 h.2))
        obtain ⟨m0, m1, m2, r0, r1, r2, z0, z1, z2⟩ := HS.out.cells
        go_wp2_with fail
        exact leads_post HS.out rfl rfl (LA_l1 a (e := rest l (fin l i)) rfl hsi he.out)
    · have t1 : decide ((j : Int) < (times cn : Int)) = false := decide_eq_false (by omega)
      have t1' : decide (j < times cn) = false := decide_eq_false (by omega)
      have he := Aside0.mk (HST.out (fun h => h1 h.1))
      obtain ⟨m0, m1, m2, r0, r1, r2, z0, z1, z2⟩ := HS.out.cells
      go_wp2_with fail
      exact leads_post HS.out rfl rfl (LA_l1 a (e := rest l (fin l i)) rfl hsi he.out)

set_option maxHeartbeats 2000000 in
set_option maxRecDepth 100000 in
theorem lead_l0f (hS : Sl w A c l) (hA : Sl w A2 c2 a) (hb : begins l i = true) (hc1 : -9223372036854775808 ≤ cn) (hc2 : cn ≤ 9223372036854775807) (hsi : ¬ i < rest l (fin l i)) :
    Calls Try.prog 41 #[.slice A l.length c, .int .i64 (i : Int), .agg #[.string ⟨#[108]⟩, .slice A2 a.length c2, .int .i64 cn], .int .i64 (times cn : Int), .bool false] w (LeadsP (motion l i [108] a cn false) w) := by
  have ht1 := times_pos cn
  have ht2 := (times_le cn).2 hc2
  have hel : rest l (fin l i) ≤ l.length := by
    have h1 := fin_le (begins_le hb)
    have h2 := rest_le h1.2; omega
  have tt : decide ((i : Int) < ((rest l (fin l i)) : Int)) = false := decide_eq_false (by omega)
  have tt' : decide (i < (rest l (fin l i))) = false := decide_eq_false (by omega)
  have hi := begins_le hb
  have hsz := hS.ok.size
  have HB := Aside0.mk hb
  have HS := Aside0.mk (Ks.begin_ hS hA ⟨#[108]⟩ cn)
  clear hS hA hb
  go_enter Try.func41, Try.ntmps41
  go_wp2_with fail
  refine (c_rstart HS.out.sl hi).mono ?_
  rintro e w1 ⟨rfl, hb⟩
  have HT := Aside0.mk (HS.out.two hb.below)
  clear hb HS
  have HS := HT
  clear HT
  go_wp2_with fail
  refine (c_rend HS.out.sl hi).mono ?_
  rintro e w2 ⟨rfl, hb⟩
  have HT := Aside0.mk (HS.out.two hb.below)
  clear hb HS
  have HS := HT
  clear HT
  obtain ⟨m0, m1, m2, r0, r1, r2, z0, z1, z2⟩ := HS.out.cells
  go_wp2_with fail
  refine (c_rRest HS.out.sl (fin_begins hi)).mono ?_
  rintro e w25 ⟨rfl, hb⟩
  have HT := Aside0.mk (HS.out.two hb)
  clear hb HS m0 m1 m2 r0 r1 r2 z0 z1 z2
  have HS := HT
  clear HT
  go_wp2_with fail
  go_loopw [17, 18] (fun v17 v18 wr => ∃ (p j : Nat), v17 = .int .i64 (p : Int) ∧ v18 = .int .i64 (j : Int) ∧ j ≤ times cn ∧ p ≤ l.length ∧ Aside0 (along l (rest l (fin l i)) (times cn - j) p = along l (rest l (fin l i)) (times cn) i) ∧ Aside0 (Ks w wr A c l A2 c2 a cn ⟨#[108]⟩)) (fun _ v18 _ => times cn - (intOf v18).toNat)
  case atStart => exact ⟨i, 0, rfl, rfl, Nat.zero_le _, hi, ⟨rfl⟩, HS⟩
  case round =>
    clear HS
    obtain ⟨p, j, rfl, rfl, hj, hp, HL, HS⟩ := hrel
    have HST : Aside0 (¬ (j < times cn ∧ p < rest l (fin l i)) → p = along l (rest l (fin l i)) (times cn) i) := ⟨fun h => by rw [← HL.out, along_end l (rest l (fin l i)) (by omega)]⟩
    by_cases h1 : j < times cn
    · have t1 : decide ((j : Int) < (times cn : Int)) = true := decide_eq_true (by omega)
      have t1' : decide (j < times cn) = true := decide_eq_true (by omega)
      by_cases h2 : p < rest l (fin l i)
      · have t2 : decide ((p : Int) < ((rest l (fin l i)) : Int)) = true := decide_eq_true (by omega)
        have t2' : decide (p < (rest l (fin l i))) = true := decide_eq_true (by omega)
        have hg := on_gt (show p < l.length by omega)
        have ho : ((on l p : Nat) : Int) = (p : Int) + (sz l p : Int) := by unfold on; omega
        have HO := Aside0.mk ho
        have hz : (p : Int) + (sz l p : Int) ≤ (l.length : Int) := by omega
        clear ho
        go_wp2_with fail
        refine (c_rsize HS.out.sl p).mono ?_
        rintro e w26 ⟨rfl, hb⟩
        have HT := Aside0.mk (HS.out.two hb)
        clear hb HS
        have HS := HT
        clear HT
        go_wp2_with fail
        go_roundw
        case rel => exact ⟨on l p, j + 1, by rw [HO.out], by go_num, by omega, by omega, ⟨by rw [← HL.out, along_more l (rest l (fin l i)) h1 h2]⟩, HS⟩
        case measure => simp [intOf]; omega
      · have t2 : decide ((p : Int) < ((rest l (fin l i)) : Int)) = false := decide_eq_false (by omega)
        have t2' : decide (p < (rest l (fin l i))) = false := decide_eq_false (by omega)
        have he := Aside0.mk (HST.out (fun h => h2 h.2))
        obtain ⟨m0, m1, m2, r0, r1, r2, z0, z1, z2⟩ := HS.out.cells
        go_wp2_with fail
        exact leads_post HS.out rfl rfl (LA_l0 a (e := rest l (fin l i)) rfl hsi)
    · have t1 : decide ((j : Int) < (times cn : Int)) = false := decide_eq_false (by omega)
      have t1' : decide (j < times cn) = false := decide_eq_false (by omega)
      have he := Aside0.mk (HST.out (fun h => h1 h.1))
      obtain ⟨m0, m1, m2, r0, r1, r2, z0, z1, z2⟩ := HS.out.cells
      go_wp2_with fail
      exact leads_post HS.out rfl rfl (LA_l0 a (e := rest l (fin l i)) rfl hsi)

set_option maxHeartbeats 1000000 in
set_option maxRecDepth 100000 in
theorem lead_upw1 (hS : Sl w A c l) (hA : Sl w A2 c2 a) (hb : begins l i = true) (hc1 : -9223372036854775808 ≤ cn) (hc2 : cn ≤ 9223372036854775807) (hsi : paraBackN l (times cn) i = i) :
    Calls Try.prog 41 #[.slice A l.length c, .int .i64 (i : Int), .agg #[.string ⟨#[123]⟩, .slice A2 a.length c2, .int .i64 cn], .int .i64 (times cn : Int), .bool op] w (LeadsP (motion l i [123] a cn op) w) := by
  have ht2 := (times_le cn).2 hc2
  have hM : motion l i [123] a cn op = none := by
    rw [motion_up]
    skip
    exact if_pos hsi
  have HM := Aside0.mk hM
  clear hM
  have q1 : ((((paraBackN l (times cn) i) : Nat) : Int) == ((i : Nat) : Int)) = true := beq_iff_eq.2 (by omega)
  have q1' : ((((paraBackN l (times cn) i) : Nat) : Int) != ((i : Nat) : Int)) = false := by rw [bne, q1]; rfl
  have q1n : ((paraBackN l (times cn) i) == i) = true := beq_iff_eq.2 (by omega)
  have q1n' : ((paraBackN l (times cn) i) != i) = false := by rw [bne, q1n]; rfl
  clear hsi
  have hi := begins_le hb
  have hsz := hS.ok.size
  have HB := Aside0.mk hb
  have HS := Aside0.mk (Ks.begin_ hS hA ⟨#[123]⟩ cn)
  clear hS hA hb
  go_enter Try.func41, Try.ntmps41
  go_wp2_with fail
  refine (c_rstart HS.out.sl hi).mono ?_
  rintro e w1 ⟨rfl, hb⟩
  have HT := Aside0.mk (HS.out.two hb.below)
  clear hb HS
  have HS := HT
  clear HT
  go_wp2_with fail
  refine (c_rend HS.out.sl hi).mono ?_
  rintro e w2 ⟨rfl, hb⟩
  have HT := Aside0.mk (HS.out.two hb.below)
  clear hb HS
  have HS := HT
  clear HT
  obtain ⟨m0, m1, m2, r0, r1, r2, z0, z1, z2⟩ := HS.out.cells
  go_wp2_with fail
  refine (c_rup HS.out.sl hi (times cn) ht2).mono ?_
  rintro e w27 ⟨rfl, hb⟩
  have HT := Aside0.mk (HS.out.two hb.below)
  clear hb HS m0 m1 m2 r0 r1 r2 z0 z1 z2
  have HS := HT
  clear HT
  obtain ⟨m0, m1, m2, r0, r1, r2, z0, z1, z2⟩ := HS.out.cells
  go_wp2_with fail
  rw [HM.out]
  exact leads_post HS.out rfl rfl (.inr ⟨rfl, rfl⟩)

set_option maxHeartbeats 1000000 in
set_option maxRecDepth 100000 in
theorem lead_upw0 (hS : Sl w A c l) (hA : Sl w A2 c2 a) (hb : begins l i = true) (hc1 : -9223372036854775808 ≤ cn) (hc2 : cn ≤ 9223372036854775807) (hsi : ¬ paraBackN l (times cn) i = i) :
    Calls Try.prog 41 #[.slice A l.length c, .int .i64 (i : Int), .agg #[.string ⟨#[123]⟩, .slice A2 a.length c2, .int .i64 cn], .int .i64 (times cn : Int), .bool op] w (LeadsP (motion l i [123] a cn op) w) := by
  have ht2 := (times_le cn).2 hc2
  have hM : motion l i [123] a cn op = some (plain_ (paraBackN l (times cn) i)) := by
    rw [motion_up]
    skip
    exact if_neg hsi
  have HM := Aside0.mk hM
  clear hM
  have q1 : ((((paraBackN l (times cn) i) : Nat) : Int) == ((i : Nat) : Int)) = false := beq_eq_false_iff_ne.2 (by omega)
  have q1' : ((((paraBackN l (times cn) i) : Nat) : Int) != ((i : Nat) : Int)) = true := by rw [bne, q1]; rfl
  have q1n : ((paraBackN l (times cn) i) == i) = false := beq_eq_false_iff_ne.2 (by omega)
  have q1n' : ((paraBackN l (times cn) i) != i) = true := by rw [bne, q1n]; rfl
  clear hsi
  have hi := begins_le hb
  have hsz := hS.ok.size
  have HB := Aside0.mk hb
  have HS := Aside0.mk (Ks.begin_ hS hA ⟨#[123]⟩ cn)
  clear hS hA hb
  go_enter Try.func41, Try.ntmps41
  go_wp2_with fail
  refine (c_rstart HS.out.sl hi).mono ?_
  rintro e w1 ⟨rfl, hb⟩
  have HT := Aside0.mk (HS.out.two hb.below)
  clear hb HS
  have HS := HT
  clear HT
  go_wp2_with fail
  refine (c_rend HS.out.sl hi).mono ?_
  rintro e w2 ⟨rfl, hb⟩
  have HT := Aside0.mk (HS.out.two hb.below)
  clear hb HS
  have HS := HT
  clear HT
  obtain ⟨m0, m1, m2, r0, r1, r2, z0, z1, z2⟩ := HS.out.cells
  go_wp2_with fail
  refine (c_rup HS.out.sl hi (times cn) ht2).mono ?_
  rintro e w28 ⟨rfl, hb⟩
  have HT := Aside0.mk (HS.out.two hb.below)
  clear hb HS m0 m1 m2 r0 r1 r2 z0 z1 z2
  have HS := HT
  clear HT
  obtain ⟨m0, m1, m2, r0, r1, r2, z0, z1, z2⟩ := HS.out.cells
  go_wp2_with fail
  rw [HM.out]
  exact leads_post HS.out rfl rfl (LA_some (plain_ (paraBackN l (times cn) i)))

set_option maxHeartbeats 1000000 in
set_option maxRecDepth 100000 in
theorem lead_downt1 (hS : Sl w A c l) (hA : Sl w A2 c2 a) (hb : begins l i = true) (hc1 : -9223372036854775808 ≤ cn) (hc2 : cn ≤ 9223372036854775807) (hsi : paraN l (times cn) i = i) :
    Calls Try.prog 41 #[.slice A l.length c, .int .i64 (i : Int), .agg #[.string ⟨#[125]⟩, .slice A2 a.length c2, .int .i64 cn], .int .i64 (times cn : Int), .bool true] w (LeadsP (motion l i [125] a cn true) w) := by
  have ht2 := (times_le cn).2 hc2
  have hM : motion l i [125] a cn true = none := by
    rw [motion_down]
    simp only [if_true]
    exact if_pos hsi
  have HM := Aside0.mk hM
  clear hM
  have q1 : ((((paraN l (times cn) i) : Nat) : Int) == ((i : Nat) : Int)) = true := beq_iff_eq.2 (by omega)
  have q1' : ((((paraN l (times cn) i) : Nat) : Int) != ((i : Nat) : Int)) = false := by rw [bne, q1]; rfl
  have q1n : ((paraN l (times cn) i) == i) = true := beq_iff_eq.2 (by omega)
  have q1n' : ((paraN l (times cn) i) != i) = false := by rw [bne, q1n]; rfl
  clear hsi
  have hi := begins_le hb
  have hsz := hS.ok.size
  have HB := Aside0.mk hb
  have HS := Aside0.mk (Ks.begin_ hS hA ⟨#[125]⟩ cn)
  clear hS hA hb
  go_enter Try.func41, Try.ntmps41
  go_wp2_with fail
  refine (c_rstart HS.out.sl hi).mono ?_
  rintro e w1 ⟨rfl, hb⟩
  have HT := Aside0.mk (HS.out.two hb.below)
  clear hb HS
  have HS := HT
  clear HT
  go_wp2_with fail
  refine (c_rend HS.out.sl hi).mono ?_
  rintro e w2 ⟨rfl, hb⟩
  have HT := Aside0.mk (HS.out.two hb.below)
  clear hb HS
  have HS := HT
  clear HT
  obtain ⟨m0, m1, m2, r0, r1, r2, z0, z1, z2⟩ := HS.out.cells
  go_wp2_with fail
  refine (c_rdown HS.out.sl hi (times cn) ht2).mono ?_
  rintro e w29 ⟨rfl, hb⟩
  have HT := Aside0.mk (HS.out.two hb.below)
  clear hb HS m0 m1 m2 r0 r1 r2 z0 z1 z2
  have HS := HT
  clear HT
  obtain ⟨m0, m1, m2, r0, r1, r2, z0, z1, z2⟩ := HS.out.cells
  go_wp2_with fail
  rw [HM.out]
  exact leads_post HS.out rfl rfl (.inr ⟨rfl, rfl⟩)

set_option maxHeartbeats 1000000 in
set_option maxRecDepth 100000 in
theorem lead_downt0 (hS : Sl w A c l) (hA : Sl w A2 c2 a) (hb : begins l i = true) (hc1 : -9223372036854775808 ≤ cn) (hc2 : cn ≤ 9223372036854775807) (hsi : ¬ paraN l (times cn) i = i) :
    Calls Try.prog 41 #[.slice A l.length c, .int .i64 (i : Int), .agg #[.string ⟨#[125]⟩, .slice A2 a.length c2, .int .i64 cn], .int .i64 (times cn : Int), .bool true] w (LeadsP (motion l i [125] a cn true) w) := by
  have ht2 := (times_le cn).2 hc2
  have hM : motion l i [125] a cn true = some (plain_ (paraN l (times cn) i)) := by
    rw [motion_down]
    simp only [if_true]
    exact if_neg hsi
  have HM := Aside0.mk hM
  clear hM
  have q1 : ((((paraN l (times cn) i) : Nat) : Int) == ((i : Nat) : Int)) = false := beq_eq_false_iff_ne.2 (by omega)
  have q1' : ((((paraN l (times cn) i) : Nat) : Int) != ((i : Nat) : Int)) = true := by rw [bne, q1]; rfl
  have q1n : ((paraN l (times cn) i) == i) = false := beq_eq_false_iff_ne.2 (by omega)
  have q1n' : ((paraN l (times cn) i) != i) = true := by rw [bne, q1n]; rfl
  clear hsi
  have hi := begins_le hb
  have hsz := hS.ok.size
  have HB := Aside0.mk hb
  have HS := Aside0.mk (Ks.begin_ hS hA ⟨#[125]⟩ cn)
  clear hS hA hb
  go_enter Try.func41, Try.ntmps41
  go_wp2_with fail
  refine (c_rstart HS.out.sl hi).mono ?_
  rintro e w1 ⟨rfl, hb⟩
  have HT := Aside0.mk (HS.out.two hb.below)
  clear hb HS
  have HS := HT
  clear HT
  go_wp2_with fail
  refine (c_rend HS.out.sl hi).mono ?_
  rintro e w2 ⟨rfl, hb⟩
  have HT := Aside0.mk (HS.out.two hb.below)
  clear hb HS
  have HS := HT
  clear HT
  obtain ⟨m0, m1, m2, r0, r1, r2, z0, z1, z2⟩ := HS.out.cells
  go_wp2_with fail
  refine (c_rdown HS.out.sl hi (times cn) ht2).mono ?_
  rintro e w30 ⟨rfl, hb⟩
  have HT := Aside0.mk (HS.out.two hb.below)
  clear hb HS m0 m1 m2 r0 r1 r2 z0 z1 z2
  have HS := HT
  clear HT
  obtain ⟨m0, m1, m2, r0, r1, r2, z0, z1, z2⟩ := HS.out.cells
  go_wp2_with fail
  rw [HM.out]
  exact leads_post HS.out rfl rfl (LA_some (plain_ (paraN l (times cn) i)))

set_option maxHeartbeats 1000000 in
set_option maxRecDepth 100000 in
theorem lead_downf1 (hS : Sl w A c l) (hA : Sl w A2 c2 a) (hb : begins l i = true) (hc1 : -9223372036854775808 ≤ cn) (hc2 : cn ≤ 9223372036854775807) (hsi : rest l (paraN l (times cn) i) = i) :
    Calls Try.prog 41 #[.slice A l.length c, .int .i64 (i : Int), .agg #[.string ⟨#[125]⟩, .slice A2 a.length c2, .int .i64 cn], .int .i64 (times cn : Int), .bool false] w (LeadsP (motion l i [125] a cn false) w) := by
  have ht2 := (times_le cn).2 hc2
  have hM : motion l i [125] a cn false = none := by
    rw [motion_down]
    simp only [Bool.false_eq_true, if_false]
    exact if_pos hsi
  have HM := Aside0.mk hM
  clear hM
  have HPB := Aside0.mk (paraN_begins (n := times cn) hb)
  have q1 : ((((rest l (paraN l (times cn) i)) : Nat) : Int) == ((i : Nat) : Int)) = true := beq_iff_eq.2 (by omega)
  have q1' : ((((rest l (paraN l (times cn) i)) : Nat) : Int) != ((i : Nat) : Int)) = false := by rw [bne, q1]; rfl
  have q1n : ((rest l (paraN l (times cn) i)) == i) = true := beq_iff_eq.2 (by omega)
  have q1n' : ((rest l (paraN l (times cn) i)) != i) = false := by rw [bne, q1n]; rfl
  clear hsi
  have hi := begins_le hb
  have hsz := hS.ok.size
  have HB := Aside0.mk hb
  have HS := Aside0.mk (Ks.begin_ hS hA ⟨#[125]⟩ cn)
  clear hS hA hb
  go_enter Try.func41, Try.ntmps41
  go_wp2_with fail
  refine (c_rstart HS.out.sl hi).mono ?_
  rintro e w1 ⟨rfl, hb⟩
  have HT := Aside0.mk (HS.out.two hb.below)
  clear hb HS
  have HS := HT
  clear HT
  go_wp2_with fail
  refine (c_rend HS.out.sl hi).mono ?_
  rintro e w2 ⟨rfl, hb⟩
  have HT := Aside0.mk (HS.out.two hb.below)
  clear hb HS
  have HS := HT
  clear HT
  obtain ⟨m0, m1, m2, r0, r1, r2, z0, z1, z2⟩ := HS.out.cells
  go_wp2_with fail
  refine (c_rdown HS.out.sl hi (times cn) ht2).mono ?_
  rintro e w31 ⟨rfl, hb⟩
  have HT := Aside0.mk (HS.out.two hb.below)
  clear hb HS m0 m1 m2 r0 r1 r2 z0 z1 z2
  have HS := HT
  clear HT
  obtain ⟨m0, m1, m2, r0, r1, r2, z0, z1, z2⟩ := HS.out.cells
  go_wp2_with fail
  refine (c_rRest HS.out.sl HPB.out).mono ?_
  rintro e w32 ⟨rfl, hb⟩
  have HT := Aside0.mk (HS.out.two hb)
  clear hb HS m0 m1 m2 r0 r1 r2 z0 z1 z2
  have HS := HT
  clear HT
  obtain ⟨m0, m1, m2, r0, r1, r2, z0, z1, z2⟩ := HS.out.cells
  go_wp2_with fail
  rw [HM.out]
  exact leads_post HS.out rfl rfl (.inr ⟨rfl, rfl⟩)

set_option maxHeartbeats 1000000 in
set_option maxRecDepth 100000 in
theorem lead_downf0 (hS : Sl w A c l) (hA : Sl w A2 c2 a) (hb : begins l i = true) (hc1 : -9223372036854775808 ≤ cn) (hc2 : cn ≤ 9223372036854775807) (hsi : ¬ rest l (paraN l (times cn) i) = i) :
    Calls Try.prog 41 #[.slice A l.length c, .int .i64 (i : Int), .agg #[.string ⟨#[125]⟩, .slice A2 a.length c2, .int .i64 cn], .int .i64 (times cn : Int), .bool false] w (LeadsP (motion l i [125] a cn false) w) := by
  have ht2 := (times_le cn).2 hc2
  have hM : motion l i [125] a cn false = some (plain_ (rest l (paraN l (times cn) i))) := by
    rw [motion_down]
    simp only [Bool.false_eq_true, if_false]
    exact if_neg hsi
  have HM := Aside0.mk hM
  clear hM
  have HPB := Aside0.mk (paraN_begins (n := times cn) hb)
  have q1 : ((((rest l (paraN l (times cn) i)) : Nat) : Int) == ((i : Nat) : Int)) = false := beq_eq_false_iff_ne.2 (by omega)
  have q1' : ((((rest l (paraN l (times cn) i)) : Nat) : Int) != ((i : Nat) : Int)) = true := by rw [bne, q1]; rfl
  have q1n : ((rest l (paraN l (times cn) i)) == i) = false := beq_eq_false_iff_ne.2 (by omega)
  have q1n' : ((rest l (paraN l (times cn) i)) != i) = true := by rw [bne, q1n]; rfl
  clear hsi
  have hi := begins_le hb
  have hsz := hS.ok.size
  have HB := Aside0.mk hb
  have HS := Aside0.mk (Ks.begin_ hS hA ⟨#[125]⟩ cn)
  clear hS hA hb
  go_enter Try.func41, Try.ntmps41
  go_wp2_with fail
  refine (c_rstart HS.out.sl hi).mono ?_
  rintro e w1 ⟨rfl, hb⟩
  have HT := Aside0.mk (HS.out.two hb.below)
  clear hb HS
  have HS := HT
  clear HT
  go_wp2_with fail
  refine (c_rend HS.out.sl hi).mono ?_
  rintro e w2 ⟨rfl, hb⟩
  have HT := Aside0.mk (HS.out.two hb.below)
  clear hb HS
  have HS := HT
  clear HT
  obtain ⟨m0, m1, m2, r0, r1, r2, z0, z1, z2⟩ := HS.out.cells
  go_wp2_with fail
  refine (c_rdown HS.out.sl hi (times cn) ht2).mono ?_
  rintro e w33 ⟨rfl, hb⟩
  have HT := Aside0.mk (HS.out.two hb.below)
  clear hb HS m0 m1 m2 r0 r1 r2 z0 z1 z2
  have HS := HT
  clear HT
  obtain ⟨m0, m1, m2, r0, r1, r2, z0, z1, z2⟩ := HS.out.cells
  go_wp2_with fail
  refine (c_rRest HS.out.sl HPB.out).mono ?_
  rintro e w34 ⟨rfl, hb⟩
  have HT := Aside0.mk (HS.out.two hb)
  clear hb HS m0 m1 m2 r0 r1 r2 z0 z1 z2
  have HS := HT
  clear HT
  obtain ⟨m0, m1, m2, r0, r1, r2, z0, z1, z2⟩ := HS.out.cells
  go_wp2_with fail
  rw [HM.out]
  exact leads_post HS.out rfl rfl (LA_some (plain_ (rest l (paraN l (times cn) i))))
set_option maxHeartbeats 1000000 in
set_option maxRecDepth 100000 in
theorem lead_none (hS : Sl w A c l) (hA : Sl w A2 c2 a) (hb : begins l i = true) (h0 : ¬ key.toList = [104]) (h1 : ¬ key.toList = [108]) (h2 : ¬ key.toList = [106]) (h3 : ¬ key.toList = [107]) (h4 : ¬ key.toList = [48]) (h5 : ¬ key.toList = [94]) (h6 : ¬ key.toList = [124]) (h7 : ¬ key.toList = [36]) (h8 : ¬ key.toList = [119]) (h9 : ¬ key.toList = [101]) (h10 : ¬ key.toList = [98]) (h11 : ¬ key.toList = [71]) (h12 : ¬ key.toList = [103, 103]) (h13 : ¬ key.toList = [102]) (h14 : ¬ key.toList = [116]) (h15 : ¬ key.toList = [70]) (h16 : ¬ key.toList = [84]) (h17 : ¬ key.toList = [125]) (h18 : ¬ key.toList = [123]) (h19 : ¬ key.toList = [37]) :
    Calls Try.prog 41 #[.slice A l.length c, .int .i64 (i : Int), .agg #[.string key, .slice A2 a.length c2, .int .i64 cn], .int .i64 (times cn : Int), .bool op] w (LeadsP (motion l i key.toList a cn op) w) := by
  have hM : motion l i key.toList a cn op = none := by
    unfold motion
    simp only [if_neg h0, if_neg h1, if_neg h2, if_neg h3, if_neg h4, if_neg h5, if_neg h6, if_neg h7, if_neg h8, if_neg h9, if_neg h10, if_neg h11, if_neg h12, if_neg h13, if_neg h14, if_neg h15, if_neg h16, if_neg h17, if_neg h18, if_neg h19]
  rw [hM]
  clear hM
  have e0 : (key.toList == [104]) = false := beq_eq_false_iff_ne.2 h0
  have e1 : (key.toList == [108]) = false := beq_eq_false_iff_ne.2 h1
  have e2 : (key.toList == [106]) = false := beq_eq_false_iff_ne.2 h2
  have e3 : (key.toList == [107]) = false := beq_eq_false_iff_ne.2 h3
  have e4 : (key.toList == [48]) = false := beq_eq_false_iff_ne.2 h4
  have e5 : (key.toList == [94]) = false := beq_eq_false_iff_ne.2 h5
  have e6 : (key.toList == [124]) = false := beq_eq_false_iff_ne.2 h6
  have e7 : (key.toList == [36]) = false := beq_eq_false_iff_ne.2 h7
  have e8 : (key.toList == [119]) = false := beq_eq_false_iff_ne.2 h8
  have e9 : (key.toList == [101]) = false := beq_eq_false_iff_ne.2 h9
  have e10 : (key.toList == [98]) = false := beq_eq_false_iff_ne.2 h10
  have e11 : (key.toList == [71]) = false := beq_eq_false_iff_ne.2 h11
  have e12 : (key.toList == [103, 103]) = false := beq_eq_false_iff_ne.2 h12
  have e13 : (key.toList == [102]) = false := beq_eq_false_iff_ne.2 h13
  have e14 : (key.toList == [116]) = false := beq_eq_false_iff_ne.2 h14
  have e15 : (key.toList == [70]) = false := beq_eq_false_iff_ne.2 h15
  have e16 : (key.toList == [84]) = false := beq_eq_false_iff_ne.2 h16
  have e17 : (key.toList == [125]) = false := beq_eq_false_iff_ne.2 h17
  have e18 : (key.toList == [123]) = false := beq_eq_false_iff_ne.2 h18
  have e19 : (key.toList == [37]) = false := beq_eq_false_iff_ne.2 h19
  clear h0 h1 h2 h3 h4 h5 h6 h7 h8 h9 h10 h11 h12 h13 h14 h15 h16 h17 h18 h19
  have hi := begins_le hb
  have hsz := hS.ok.size
  have HB := Aside0.mk hb
  have HS := Aside0.mk (Ks.begin_ hS hA key cn)
  clear hS hA hb
  go_enter Try.func41, Try.ntmps41
  go_wp2_with fail
  refine (c_rstart HS.out.sl hi).mono ?_
  rintro e w1 ⟨rfl, hb⟩
  have HT := Aside0.mk (HS.out.two hb.below)
  clear hb HS
  have HS := HT
  clear HT
  go_wp2_with fail
  refine (c_rend HS.out.sl hi).mono ?_
  rintro e w2 ⟨rfl, hb⟩
  have HT := Aside0.mk (HS.out.two hb.below)
  clear hb HS
  have HS := HT
  clear HT
  obtain ⟨m0, m1, m2, r0, r1, r2, z0, z1, z2⟩ := HS.out.cells
  go_wp2_with fail
  exact leads_post HS.out rfl rfl (.inr ⟨rfl, rfl⟩)
theorem c_leads (hS : Sl w A c l) (hA : Sl w A2 c2 a) (hb : begins l i = true) (hc1 : -9223372036854775808 ≤ cn) (hc2 : cn ≤ 9223372036854775807) (key : ByteArray) (op : Bool) :
    Calls Try.prog 41 #[.slice A l.length c, .int .i64 (i : Int), .agg #[.string key, .slice A2 a.length c2, .int .i64 cn], .int .i64 (times cn : Int), .bool op] w (LeadsP (motion l i key.toList a cn op) w) := by
  by_cases h0 : key.toList = [104]
  · obtain rfl := eq_of_toList (k := key) (x := #[104]) h0
    rw [h0]
    by_cases hsi : start l i < i
    · exact lead_h1 hS hA hb hc1 hc2 hsi
    · exact lead_h0 hS hA hb hc1 hc2 hsi
  by_cases h1 : key.toList = [108]
  · obtain rfl := eq_of_toList (k := key) (x := #[108]) h1
    rw [h1]
    cases op
    · by_cases hsi : i < rest l (fin l i)
      · exact lead_l1f hS hA hb hc1 hc2 hsi
      · exact lead_l0f hS hA hb hc1 hc2 hsi
    · by_cases hsi : i < fin l i
      · exact lead_l1t hS hA hb hc1 hc2 hsi
      · exact lead_l0t hS hA hb hc1 hc2 hsi
  by_cases h2 : key.toList = [106]
  · obtain rfl := eq_of_toList (k := key) (x := #[106]) h2
    rw [h2]
    exact lead_j hS hA hb hc1 hc2
  by_cases h3 : key.toList = [107]
  · obtain rfl := eq_of_toList (k := key) (x := #[107]) h3
    rw [h3]
    exact lead_k hS hA hb hc1 hc2
  by_cases h4 : key.toList = [48]
  · obtain rfl := eq_of_toList (k := key) (x := #[48]) h4
    rw [h4]
    exact lead_0 hS hA hb hc1 hc2
  by_cases h5 : key.toList = [94]
  · obtain rfl := eq_of_toList (k := key) (x := #[94]) h5
    rw [h5]
    exact lead_caret hS hA hb hc1 hc2
  by_cases h6 : key.toList = [124]
  · obtain rfl := eq_of_toList (k := key) (x := #[124]) h6
    rw [h6]
    exact lead_bar hS hA hb hc1 hc2
  by_cases h7 : key.toList = [36]
  · obtain rfl := eq_of_toList (k := key) (x := #[36]) h7
    rw [h7]
    exact lead_dollar hS hA hb hc1 hc2
  by_cases h8 : key.toList = [119]
  · obtain rfl := eq_of_toList (k := key) (x := #[119]) h8
    rw [h8]
    exact lead_w hS hA hb hc1 hc2
  by_cases h9 : key.toList = [101]
  · obtain rfl := eq_of_toList (k := key) (x := #[101]) h9
    rw [h9]
    exact lead_e hS hA hb hc1 hc2
  by_cases h10 : key.toList = [98]
  · obtain rfl := eq_of_toList (k := key) (x := #[98]) h10
    rw [h10]
    exact lead_b hS hA hb hc1 hc2
  by_cases h11 : key.toList = [71]
  · obtain rfl := eq_of_toList (k := key) (x := #[71]) h11
    rw [h11]
    exact lead_G hS hA hb hc1 hc2
  by_cases h12 : key.toList = [103, 103]
  · obtain rfl := eq_of_toList (k := key) (x := #[103, 103]) h12
    rw [h12]
    exact lead_gg hS hA hb hc1 hc2
  by_cases h13 : key.toList = [102]
  · obtain rfl := eq_of_toList (k := key) (x := #[102]) h13
    rw [h13]
    exact lead_f hS hA hb hc1 hc2
  by_cases h14 : key.toList = [116]
  · obtain rfl := eq_of_toList (k := key) (x := #[116]) h14
    rw [h14]
    exact lead_t hS hA hb hc1 hc2
  by_cases h15 : key.toList = [70]
  · obtain rfl := eq_of_toList (k := key) (x := #[70]) h15
    rw [h15]
    exact lead_F hS hA hb hc1 hc2
  by_cases h16 : key.toList = [84]
  · obtain rfl := eq_of_toList (k := key) (x := #[84]) h16
    rw [h16]
    exact lead_T hS hA hb hc1 hc2
  by_cases h17 : key.toList = [125]
  · obtain rfl := eq_of_toList (k := key) (x := #[125]) h17
    rw [h17]
    cases op
    · by_cases hsi : rest l (paraN l (times cn) i) = i
      · exact lead_downf1 hS hA hb hc1 hc2 hsi
      · exact lead_downf0 hS hA hb hc1 hc2 hsi
    · by_cases hsi : paraN l (times cn) i = i
      · exact lead_downt1 hS hA hb hc1 hc2 hsi
      · exact lead_downt0 hS hA hb hc1 hc2 hsi
  by_cases h18 : key.toList = [123]
  · obtain rfl := eq_of_toList (k := key) (x := #[123]) h18
    rw [h18]
    by_cases hsi : paraBackN l (times cn) i = i
    · exact lead_upw1 hS hA hb hc1 hc2 hsi
    · exact lead_upw0 hS hA hb hc1 hc2 hsi
  by_cases h19 : key.toList = [37]
  · obtain rfl := eq_of_toList (k := key) (x := #[37]) h19
    rw [h19]
    exact lead_pair hS hA hb hc1 hc2
  exact lead_none hS hA hb h0 h1 h2 h3 h4 h5 h6 h7 h8 h9 h10 h11 h12 h13 h14 h15 h16 h17 h18 h19
theorem go_post {w0 : World} {tm : Array Value} {x : Int} {y z k : Bool} (h : Ks w0 w A c l A2 c2 a cn key) (ht : tm[8]? = some (.pointer (some ⟨w0.heap.size + 1, 0, none⟩))) (hk : tm[9]? = some (.bool k)) {V : Value} (hA : .tuple #[.agg #[.int .i64 x, .bool y, .bool z], .bool k] = V) :
    bodyPost Try.prog Try.f15 (fun e w' => e = .returned V ∧ Below w0.heap.size w0 w') .ret { tmps := tm, defers := [] } (laidX w (w0.heap.size + 1) x y z) := by
  have h2 := h.r
  have c0 : (laidX w (w0.heap.size + 1) x y z).cell? ⟨w0.heap.size + 1, 0, none⟩ = some (.int .i64 x) := by simp [laidX, World.cell?, World.setCell, Array.getElem?_modify, h2]
  have c1 : (laidX w (w0.heap.size + 1) x y z).cell? ⟨w0.heap.size + 1, 1, none⟩ = some (.bool y) := by simp [laidX, World.cell?, World.setCell, Array.getElem?_modify, h2]
  have c2 : (laidX w (w0.heap.size + 1) x y z).cell? ⟨w0.heap.size + 1, 2, none⟩ = some (.bool z) := by simp [laidX, World.cell?, World.setCell, Array.getElem?_modify, h2]
  have hb : Below w0.heap.size w0 (laidX w (w0.heap.size + 1) x y z) := ((h.bel.setCell (p := ⟨w0.heap.size + 1, 0, none⟩) (by simp) _).setCell (p := ⟨w0.heap.size + 1, 1, none⟩) (by simp) _).setCell (p := ⟨w0.heap.size + 1, 2, none⟩) (by simp) _
  generalize laidX w (w0.heap.size + 1) x y z = w' at *
  subst hA
  have hu := Try.underlying31
  refine bodyPost_ret ?_ rfl ⟨rfl, hb⟩
  simp [results, Try.results15, go_sem, ht, hk, c0, c1, c2]
set_option maxHeartbeats 1000000 in
set_option maxRecDepth 100000 in
/-- The document's own Go answers what the plain motion says. -/
theorem rGo_calls (hS : Sl w A c l) (hA : Sl w A2 c2 a) (at_ : Int) (key : ByteArray) (hc1 : -9223372036854775808 ≤ cn) (hc2 : cn ≤ 9223372036854775807) (op : Bool) :
    Calls Try.prog 15 #[.slice A l.length c, .int .i64 at_, .agg #[.string key, .slice A2 a.length c2, .int .i64 cn], .bool op] w fun e w' => e = .returned (goV (motion l (place l at_) key.toList a cn op)) ∧ Below w.heap.size w w' := by
  have hmax : (if cn < 1 then (1 : Int) else cn) = ((times cn : Nat) : Int) := by unfold times; split <;> omega
  have HS := Aside0.mk (Ks.begin_ hS hA key cn)
  obtain ⟨o, ho⟩ : ∃ o, motion l (place l at_) key.toList a cn op = o := ⟨_, rfl⟩
  rw [ho]
  have HO := Aside0.mk ho
  clear hS hA ho
  go_enter Try.func15, Try.ntmps15
  go_wp2_with fail
  refine (c_rplace HS.out.sl at_).mono ?_
  rintro e w1 ⟨rfl, hb⟩
  have HT := Aside0.mk (HS.out.two hb)
  clear hb HS
  have HS := HT
  clear HT
  have HPB := Aside0.mk (place_begins l at_)
  obtain ⟨m0, m1, m2, r0, r1, r2, z0, z1, z2⟩ := HS.out.cells
  go_wp2_with fail
  refine (c_leads HS.out.sl HS.out.sa HPB.out hc1 hc2 key op).mono ?_
  rintro e w2 ⟨⟨x, y, z, k⟩, hla, rfl, hb⟩
  have HT := Aside0.mk (HS.out.two hb)
  clear hb HS m0 m1 m2 r0 r1 r2 z0 z1 z2 hmax
  have HS := HT
  clear HT
  try simp only [] at hla
  try simp only []
  rw [HO.out] at hla
  clear HO
  rcases hla with ⟨⟨x', y', z'⟩, rfl, hla⟩ | ⟨rfl, hk⟩
  · simp only [goT, Prod.mk.injEq] at hla
    obtain ⟨rfl, rfl, rfl, rfl⟩ := hla
    have HT := Aside0.mk (HS.out.two (below_alloc (Below.refl _ _) (.cells #[.int .i64 (x' : Int), .bool y, .bool z] 31)))
    clear HS
    have HS := HT
    clear HT
    obtain ⟨m0, m1, m2, r0, r1, r2, z0, z1, z2⟩ := HS.out.cells
    go_wp2_with fail
    exact go_post HS.out rfl rfl rfl
  · try simp only [] at hk
    subst hk
    have HT := Aside0.mk (HS.out.two (below_alloc (Below.refl _ _) (.cells #[.int .i64 x, .bool y, .bool z] 31)))
    clear HS
    have HS := HT
    clear HT
    obtain ⟨m0, m1, m2, r0, r1, r2, z0, z1, z2⟩ := HS.out.cells
    go_wp2_with fail
    exact go_post HS.out rfl rfl rfl
end
end Go.Proofs.Ytiibjehnlphabaa

end

section
namespace Go.Proofs.Ytiibjehnlphabaa
open Go.RowKit Go.Proofs.YtiibjehnlphabaaW.PrintWords Go.Proofs.YtiibjehnlphabaaW.PrintMore Q
set_option linter.unusedVariables false
set_option linter.unusedSimpArgs false
theorem lit_sl (w : World) {xs : List Int} {C : Array Value} (hC : C = (xs.map (Value.int .u8)).toArray) (ok : OkL xs) {c : Nat} (hc : xs.length ≤ c) (fr : Nat × Nat) (g : Nat) (hg : g = w.heap.size) : Sl (w.alloc (.cells C 5 fr)) (some ⟨g, 0, none⟩) c xs := by
  subst hC hg
  refine ⟨Kd.C_of_reads (enc := Value.int .u8) (d := (0 : Int)) (h1 := fun _ => rfl) ⟨rfl, by have := ok.size; omega, fun _ => ⟨_, rfl, fun j hj => ?_⟩⟩, hc, ok⟩
  rw [Addr.add_lit, Nat.zero_add]
  refine (World.cell?_alloc_mark w _ 5 fr j).trans ?_
  simp [List.getD_eq_getElem?_getD, hj]
theorem nil_sl (w : World) : Sl w none 0 [] := ⟨Kd.C_nil _ _, Nat.le_refl _, ⟨rfl, by simp⟩⟩
theorem c_Rest {A : Option Addr} {c : Nat} {l : List Int} {w : World} (h : Sl w A c l) (a : Int) : Calls Try.prog 18 #[.slice A l.length c, .int .i64 a] w fun e w' => e = .returned (.int .i64 (rest l (place l a) : Int)) ∧ Below w.heap.size w w' := by
  obtain ⟨k, e⟩ := (Rest_ev h.ok a).rounds
  exact move_Rest.calls k A c l a _ w h.reads h.cap e
set_option maxRecDepth 100000 in
theorem awake_calls (w : World) : Calls Try.prog 12 #[] w fun e w' => e = .returned (.bool true) ∧ Below w.heap.size w w' := by
  have kc := fun (w : World) (C : Array Value) (n c g : Nat) (hg : g = w.heap.size) => Joins.run_convert_bytes_const_at (P := Try.prog) w 23 5 C n c g hg Try.underlying23 Try.underlying5
  have hm : motion [97, 98, 32, 99, 100] (place [97, 98, 32, 99, 100] 0) (⟨#[119]⟩ : ByteArray).toList [] 0 false = some (3, false, false) := by
    rw [Lib.toList_data]
    decide +kernel
  have hr : ((rest [97, 98] (place [97, 98] 2) : Nat) : Int) = 1 := by decide +kernel
  go_enter Try.func12, Try.ntmps12
  go_wp2_with fail
  refine (Go_calls (l := [97, 98, 32, 99, 100]) (a := []) (lit_sl w rfl ⟨by decide, by decide⟩ (by decide) _ _ rfl) (nil_sl _) 0 (by omega) (by omega) _ hm).mono ?_
  rintro e w1 ⟨rfl, hb⟩
  simp only [goV, goalV]
  have HB : Aside0 (Below w.heap.size w w1) := ⟨(below_alloc (Below.refl _ _) _).trans (hb.mono (by simp))⟩
  clear hb hm
  go_wp2_with fail
  refine (c_Rest (l := [97, 98]) (lit_sl (w1.alloc (.cells #[.int .i64 3, .bool false, .bool false] 25)) rfl ⟨by decide, by decide⟩ (by decide) _ _ (by simp)) 2).mono ?_
  rintro e w2 ⟨rfl, hb⟩
  have HB2 : Aside0 (Below w.heap.size w w2) := ⟨HB.out.trans ((below_alloc (below_alloc (Below.refl _ _) _) _).trans (hb.mono (by simp; omega)) |>.mono HB.out.size)⟩
  clear hb HB
  go_wp2_with fail
  go_ret
  exact ⟨rfl, HB2.out⟩
namespace Q
end Q
end Go.Proofs.Ytiibjehnlphabaa

end

section
namespace Go.Proofs.Ytiibjehnlphabaa
theorem ok_of {l : List Int} (h1 : l.length * 1 ≤ 140737488351232) (h2 : ∀ x ∈ l, (Lit.int .u8 x).wf = true) : OkL l := by
  refine ⟨List.all_eq_true.2 fun x hx => ?_, by omega⟩
  have := h2 x hx
  simp [Lit.wf, byteB] at this ⊢
  have e1 : IntKind.u8.min = 0 := by decide
  have e2 : IntKind.u8.max = 255 := by decide
  omega
theorem i64_of {x : Int} (h : (Lit.int .i64 x).wf = true) : -9223372036854775808 ≤ x ∧ x ≤ 9223372036854775807 := by
  simp [Lit.wf] at h
  have e1 : IntKind.i64.min = -9223372036854775808 := by decide
  omega
end Go.Proofs.Ytiibjehnlphabaa

end

section
namespace Go.Proofs.Ytiibjehnlphabaa
open Go.RowKit Go.Proofs.YtiibjehnlphabaaW.PrintWords Go.Proofs.YtiibjehnlphabaaW.PrintMore Q
set_option linter.unusedVariables false
set_option linter.unusedSimpArgs false
section
variable {w0 w w1 : World} {A : Option Addr} {c : Nat} {l : List Int} {gs : List (Nat × Int × Bool × Bool)}
end
theorem row_sl {w : World} {a0 : Option Addr} {len0 cap0 : Nat} {z0 : List Int} (w0 : (a0 = none ∧ len0 = 0 ∧ cap0 = 0 ∧ z0 = []) ∨ ∃ x, a0 = some x ∧ len0 ≤ cap0 ∧ cap0 ≤ maxLen ∧ z0.length = cap0 ∧ (∀ i, i < z0.length → w.cell? (x.add i) = some (.int .u8 (z0.getD i 0))) ∧ ∀ n ∈ z0, (Lit.int .u8 n).wf = true) (y0 : len0 * 1 ≤ 140737488351232) : ∃ l, len0 = l.length ∧ Sl w a0 cap0 l := by
  obtain ⟨l0, rfl, hr0, hm0, hw0, hc0⟩ := ReadsInt.ofRowC w0
  exact ⟨l0, rfl, ⟨Kd.C_of_reads (d := (0 : Int)) (h1 := fun _ => rfl) hr0, hc0, ok_of y0 hw0⟩⟩
end Go.Proofs.Ytiibjehnlphabaa

end

section
namespace Go.Proofs.Ytiibjehnlphabaa
open Go.RowKit Go.Proofs.YtiibjehnlphabaaW.PrintWords Go.Proofs.YtiibjehnlphabaaW.PrintMore Q
set_option linter.unusedVariables false
set_option linter.unusedSimpArgs false
section
variable {w0 w w1 : World} {A : Option Addr} {c : Nat} {l : List Int} {A2 : Option Addr} {c2 : Nat} {a : List Int} {cn : Int} {mb kb : Nat} {key : ByteArray} {gs : List (Nat × Int × Bool × Bool)}
theorem c_May (h : Sl w A2 c2 a) (key : ByteArray) (cn : Int) (b : Bool) (hb : Y_May.f key a cn = some b) : Calls Try.prog 14 #[.agg #[.string key, .slice A2 a.length c2, .int .i64 cn]] w fun e w' => e = .returned (.bool b) ∧ Below w.heap.size w w' :=
  Y_May.calls key A2 c2 a cn b w h.reads h.cap hb
end
section
variable {w : World} {A : Option Addr} {c : Nat} {l : List Int} {A2 : Option Addr} {c2 : Nat} {a : List Int} {cn : Int} {key : ByteArray}
theorem may_any (key : ByteArray) (a : List Int) (cn : Int) : ∃ b, Y_May.f key a cn = some b := by
  unfold Y_May.f
  split
  · exact ⟨_, rfl⟩
  · exact ⟨_, rfl⟩
end
end Go.Proofs.Ytiibjehnlphabaa

end

section
namespace Go.Proofs.Ytiibjehnlphabaa
open Go.RowKit Go.Proofs.YtiibjehnlphabaaW.PrintWords Go.Proofs.YtiibjehnlphabaaW.PrintMore Q
set_option linter.unusedVariables false
set_option linter.unusedSimpArgs false
section
variable {w : World} {A : Option Addr} {c : Nat} {l : List Int}
def gx : Option Gl → Int
  | some (x, _, _) => x
  | none => 0
def gy : Option Gl → Bool
  | some (_, y, _) => y
  | none => false
def gz : Option Gl → Bool
  | some (_, _, z) => z
  | none => false
theorem goV_any (o : Option Gl) : goV o = .tuple #[.agg #[.int .i64 (gx o), .bool (gy o), .bool (gz o)], .bool o.isSome] := by
  cases o with
  | none => rfl
  | some t => obtain ⟨x, y, z⟩ := t; rfl
end
end Go.Proofs.Ytiibjehnlphabaa

end

section
namespace Go.Proofs.Ytiibjehnlphabaa
open Go.RowKit Go.Proofs.YtiibjehnlphabaaW.PrintWords Go.Proofs.YtiibjehnlphabaaW.PrintMore Q
set_option linter.unusedVariables false
set_option linter.unusedSimpArgs false
section
variable {w w0 w1 : World} {A : Option Addr} {c : Nat} {l : List Int} {A2 : Option Addr} {c2 : Nat} {a : List Int} {cn : Int} {key : ByteArray} {gs : List (Nat × Int × Bool × Bool × Nat)}
theorem c_same (w : World) (x : Int) (y z : Bool) : Calls Try.prog 17 #[.agg #[.int .i64 x, .bool y, .bool z], .agg #[.int .i64 x, .bool y, .bool z]] w fun e w' => e = .returned (.bool true) ∧ Below w.heap.size w w' := by
  refine Y_same.calls x y z x y z true w ?_
  unfold Y_same.f
  rw [if_pos rfl, if_pos (beq_self_eq_true _), beq_self_eq_true]
structure Es (w0 w : World) (A : Option Addr) (c : Nat) (l : List Int) (A2 : Option Addr) (c2 : Nat) (a : List Int) (cn : Int) (key : ByteArray) (gs : List (Nat × Int × Bool × Bool × Nat)) : Prop where
  sl : Sl w A c l
  sa : Sl w A2 c2 a
  bel : Below w0.heap.size w0 w
  m : w.heap[w0.heap.size]? = some (.cells #[.string key, .slice A2 a.length c2, .int .i64 cn] 29 (0, 0))
  box : ∀ p ∈ gs, w.heap[p.1]? = some (.cells #[.int .i64 p.2.1, .bool p.2.2.1, .bool p.2.2.2.1] p.2.2.2.2 (0, 0))
theorem Es.begin_ (hS : Sl w A c l) (hA : Sl w A2 c2 a) (key : ByteArray) (cn : Int) : Es w (w.alloc (.cells #[.string key, .slice A2 a.length c2, .int .i64 cn] 29)) A c l A2 c2 a cn key [] := by
  have hb : Below w.heap.size w (w.alloc (.cells #[.string key, .slice A2 a.length c2, .int .i64 cn] 29)) := below_alloc (Below.refl _ _) _
  exact ⟨hS.below hb, hA.below hb, hb, heap_alloc_new w _, fun p hp => by cases hp⟩
theorem Es.two (h : Es w0 w A c l A2 c2 a cn key gs) (hb : Below w.heap.size w w1) : Es w0 w1 A c l A2 c2 a cn key gs :=
  ⟨h.sl.below hb, h.sa.below hb, h.bel.trans (hb.mono h.bel.size), (hb.block _ (heap_lt h.m)).trans h.m, fun p hp => (hb.block _ (heap_lt (h.box p hp))).trans (h.box p hp)⟩
theorem Es.goal (h : Es w0 w A c l A2 c2 a cn key gs) (x : Int) (y z : Bool) (T : Nat) : Es w0 (w.alloc (.cells #[.int .i64 x, .bool y, .bool z] T)) A c l A2 c2 a cn key ((w.heap.size, x, y, z, T) :: gs) := by
  have hb := below_alloc (Below.refl w.heap.size w) (.cells #[.int .i64 x, .bool y, .bool z] T)
  have h2 := h.two hb
  refine ⟨h2.sl, h2.sa, h2.bel, h2.m, fun p hp => ?_⟩
  rcases List.mem_cons.1 hp with rfl | hp
  · exact heap_alloc_new w _
  · exact h2.box p hp
theorem Es.mcells (h : Es w0 w A c l A2 c2 a cn key gs) : w.cell? ⟨w0.heap.size, 0, none⟩ = some (.string key) ∧ w.cell? ⟨w0.heap.size, 1, none⟩ = some (.slice A2 a.length c2) ∧ w.cell? ⟨w0.heap.size, 2, none⟩ = some (.int .i64 cn) := by
  have h1 := h.m
  exact ⟨by simp [World.cell?, h1], by simp [World.cell?, h1], by simp [World.cell?, h1]⟩
theorem Es.cells (h : Es w0 w A c l A2 c2 a cn key gs) {g : Nat} {x : Int} {y z : Bool} {T : Nat} (hp : (g, x, y, z, T) ∈ gs) : w.cell? ⟨g, 0, none⟩ = some (.int .i64 x) ∧ w.cell? ⟨g, 1, none⟩ = some (.bool y) ∧ w.cell? ⟨g, 2, none⟩ = some (.bool z) := by
  have h1 := h.box _ hp
  simp only at h1
  exact ⟨by simp [World.cell?, h1], by simp [World.cell?, h1], by simp [World.cell?, h1]⟩
end
section
variable {w : World} {A : Option Addr} {c : Nat} {l : List Int} {A2 : Option Addr} {c2 : Nat} {a : List Int} {cn : Int} {key : ByteArray}
theorem c_model (w : World) (key : ByteArray) (A2 : Option Addr) (n2 c2 : Nat) (cn : Int) : Calls Try.prog 16 #[.agg #[.string key, .slice A2 n2 c2, .int .i64 cn]] w fun e w' => e = .returned (.agg #[.string key, .slice A2 n2 c2, .int .i64 cn]) ∧ Below w.heap.size w w' := by
  have hu := Try.underlying34
  go_enter Try.func16, Try.ntmps16
  go_wp2_with fail
  refine bodyPost_ret (v := .agg #[.string key, .slice A2 n2 c2, .int .i64 cn]) ?_ rfl ⟨rfl, below_alloc (below_alloc (Below.refl _ _) _) _⟩
  simp [results, Try.results16, go_sem, hu]
set_option maxHeartbeats 2000000 in
set_option maxRecDepth 100000 in
theorem lawGoes_in (hS : Sl w A c l) (hA : Sl w A2 c2 a) (at_ : Int) (hc1 : -9223372036854775808 ≤ cn) (hc2 : cn ≤ 9223372036854775807) (hl : ¬ 2000 < l.length) (hM : Y_May.f key a cn = some true) :
    Calls Try.prog 4 #[.slice A l.length c, .int .i64 at_, .agg #[.string key, .slice A2 a.length c2, .int .i64 cn]] w fun e w' => e = .returned (.bool true) ∧ Below w.heap.size w w' := by
  have hsz := hS.ok.size
  have HS := Aside0.mk (Es.begin_ hS hA key cn)
  have HM := Aside0.mk hM
  clear hS hA hM
  have t1 : decide ((2000 : Int) < (l.length : Int)) = false := decide_eq_false (by omega)
  have t1' : decide (2000 < l.length) = false := decide_eq_false (by omega)
  go_enter Try.func4, Try.ntmps4
  go_wp2_with fail
  refine (awake_calls _).mono ?_
  rintro e w1 ⟨rfl, hb⟩
  have HT := Aside0.mk (HS.out.two hb)
  clear hb HS 
  have HS := HT
  clear HT
  obtain ⟨m0, m1, m2⟩ := HS.out.mcells
  go_wp2_with fail
  refine (c_May HS.out.sa key cn true HM.out).mono ?_
  rintro e w2 ⟨rfl, hb⟩
  have HT := Aside0.mk (HS.out.two hb)
  clear hb HS m0 m1 m2
  have HS := HT
  clear HT
  obtain ⟨m0, m1, m2⟩ := HS.out.mcells
  clear t1 t1' HM
  go_wp2_with fail
  refine (Go_calls HS.out.sl HS.out.sa at_ hc1 hc2 _ rfl).mono ?_
  rintro e w3 ⟨rfl, hb⟩
  simp only [goV_any]
  generalize h1_ : motion l (place l at_) key.toList a cn false = o1 at *
  have HT := Aside0.mk ((HS.out.two hb).goal (gx o1) (gy o1) (gz o1) 25)
  have H1 := Aside0.mk h1_
  clear hb HS m0 m1 m2 h1_
  have HS := HT
  clear HT
  obtain ⟨m0, m1, m2⟩ := HS.out.mcells
  go_wp2_with fail
  refine (c_model _ key A2 a.length c2 cn).mono ?_
  rintro e w4 ⟨rfl, hb⟩
  have HT := Aside0.mk (HS.out.two hb)
  clear hb HS m0 m1 m2
  have HS := HT
  clear HT
  obtain ⟨m0, m1, m2⟩ := HS.out.mcells
  go_wp2_with fail
  refine (rGo_calls HS.out.sl HS.out.sa at_ key hc1 hc2 false).mono ?_
  rintro e w5 ⟨rfl, hb⟩
  simp only [H1.out, goV_any]
  have HT := Aside0.mk ((HS.out.two hb).goal (gx o1) (gy o1) (gz o1) 31)
  clear hb HS m0 m1 m2 H1
  have HS := HT
  clear HT
  obtain ⟨m0, m1, m2⟩ := HS.out.mcells
  go_wp2_with fail
  refine (Go_calls HS.out.sl HS.out.sa at_ hc1 hc2 _ rfl).mono ?_
  rintro e w6 ⟨rfl, hb⟩
  simp only [goV_any]
  generalize h1_ : motion l (place l at_) key.toList a cn true = o2 at *
  have HT := Aside0.mk ((HS.out.two hb).goal (gx o2) (gy o2) (gz o2) 25)
  have H1 := Aside0.mk h1_
  clear hb HS m0 m1 m2 h1_
  have HS := HT
  clear HT
  obtain ⟨m0, m1, m2⟩ := HS.out.mcells
  go_wp2_with fail
  refine (c_model _ key A2 a.length c2 cn).mono ?_
  rintro e w7 ⟨rfl, hb⟩
  have HT := Aside0.mk (HS.out.two hb)
  clear hb HS m0 m1 m2
  have HS := HT
  clear HT
  obtain ⟨m0, m1, m2⟩ := HS.out.mcells
  go_wp2_with fail
  refine (rGo_calls HS.out.sl HS.out.sa at_ key hc1 hc2 true).mono ?_
  rintro e w8 ⟨rfl, hb⟩
  simp only [H1.out, goV_any]
  have HT := Aside0.mk ((HS.out.two hb).goal (gx o2) (gy o2) (gz o2) 31)
  clear hb HS m0 m1 m2 H1
  have HS := HT
  clear HT
  generalize gx o1 = x1 at *
  generalize gy o1 = y1 at *
  generalize gz o1 = z1 at *
  generalize o1.isSome = k1 at *
  generalize gx o2 = x2 at *
  generalize gy o2 = y2 at *
  generalize gz o2 = z2 at *
  generalize o2.isSome = k2 at *
  obtain ⟨a0, a1, a2⟩ := HS.out.cells (g := w3.heap.size) (x := x1) (y := y1) (z := z1) (T := 25) (by simp)
  obtain ⟨b0, b1, b2⟩ := HS.out.cells (g := w5.heap.size) (x := x1) (y := y1) (z := z1) (T := 31) (by simp)
  go_wp2_with fail
  refine (c_same _ x1 y1 z1).mono ?_
  rintro e w9 ⟨rfl, hb⟩
  have HT := Aside0.mk (HS.out.two hb)
  clear hb HS a0 a1 a2 b0 b1 b2
  have HS := HT
  clear HT
  obtain ⟨a0, a1, a2⟩ := HS.out.cells (g := w6.heap.size) (x := x2) (y := y2) (z := z2) (T := 25) (by simp)
  obtain ⟨b0, b1, b2⟩ := HS.out.cells (g := w8.heap.size) (x := x2) (y := y2) (z := z2) (T := 31) (by simp)
  go_wp2_with fail
  refine (c_same _ x2 y2 z2).mono ?_
  rintro e w10 ⟨rfl, hb⟩
  have HT := Aside0.mk (HS.out.two hb)
  clear hb HS a0 a1 a2 b0 b1 b2
  have HS := HT
  clear HT
  go_wp2_with fail
  go_ret
  exact ⟨rfl, HS.out.bel⟩
set_option maxRecDepth 100000 in
theorem lawGoes_out (hS : Sl w A c l) (hA : Sl w A2 c2 a) (at_ : Int) (h : 2000 < l.length ∨ Y_May.f key a cn = some false) :
    Calls Try.prog 4 #[.slice A l.length c, .int .i64 at_, .agg #[.string key, .slice A2 a.length c2, .int .i64 cn]] w fun e w' => e = .returned (.bool true) ∧ Below w.heap.size w w' := by
  have hsz := hS.ok.size
  have HS := Aside0.mk (Es.begin_ hS hA key cn)
  clear hS hA
  by_cases hl : 2000 < l.length
  · have t1 : decide ((2000 : Int) < (l.length : Int)) = true := decide_eq_true (by omega)
    have t1' : decide (2000 < l.length) = true := decide_eq_true (by omega)
    clear h
    go_enter Try.func4, Try.ntmps4
    go_wp2_with fail
    refine (awake_calls _).mono ?_
    rintro e w1 ⟨rfl, hb⟩
    have HT := Aside0.mk (HS.out.two hb)
    clear hb HS 
    have HS := HT
    clear HT
    obtain ⟨m0, m1, m2⟩ := HS.out.mcells
    go_wp2_with fail
    go_ret
    exact ⟨rfl, HS.out.bel⟩
  · have t1 : decide ((2000 : Int) < (l.length : Int)) = false := decide_eq_false (by omega)
    have t1' : decide (2000 < l.length) = false := decide_eq_false (by omega)
    have HM : Aside0 (Y_May.f key a cn = some false) := ⟨by rcases h with h | h <;> first | omega | exact h⟩
    clear h
    go_enter Try.func4, Try.ntmps4
    go_wp2_with fail
    refine (awake_calls _).mono ?_
    rintro e w1 ⟨rfl, hb⟩
    have HT := Aside0.mk (HS.out.two hb)
    clear hb HS 
    have HS := HT
    clear HT
    obtain ⟨m0, m1, m2⟩ := HS.out.mcells
    go_wp2_with fail
    refine (c_May HS.out.sa key cn false HM.out).mono ?_
    rintro e w2 ⟨rfl, hb⟩
    have HT := Aside0.mk (HS.out.two hb)
    clear hb HS m0 m1 m2
    have HS := HT
    clear HT
    obtain ⟨m0, m1, m2⟩ := HS.out.mcells
    go_wp2_with fail
    go_ret
    exact ⟨rfl, HS.out.bel⟩
theorem lawGoes_calls (hS : Sl w A c l) (at_ : Int) (h1 : (Lit.int .i64 at_).wf = true) (hA : Sl w A2 c2 a) (key : ByteArray) (hc : (Lit.int .i64 cn).wf = true) :
    Calls Try.prog 4 #[.slice A l.length c, .int .i64 at_, .agg #[.string key, .slice A2 a.length c2, .int .i64 cn]] w fun e w' => e = .returned (.bool true) ∧ Below w.heap.size w w' := by
  obtain ⟨hc1, hc2⟩ := i64_of hc
  obtain ⟨b, hb⟩ := may_any key a cn
  by_cases hl : 2000 < l.length
  · exact lawGoes_out hS hA at_ (.inl hl)
  · cases b
    · exact lawGoes_out hS hA at_ (.inr hb)
    · exact lawGoes_in hS hA at_ hc1 hc2 hl hb
end
end Go.Proofs.Ytiibjehnlphabaa

end

section
namespace Go.Proofs.Ytiibjehnlphabaa.moveGoes
open Go.ChangeShapes Go.WideShapes Go.ChangeAt Go.RowKit
set_option linter.unusedVariables false
theorem own : ownKnob Try.prog.godebug = none := by kernel_rfl
theorem laidOut : laidOutB Try.prog = true := by kernel_rfl
theorem cells29 : Try.prog.cellsOf 29 = 3 := by kernel_rfl
def IsRow (k : IntKind) (w : World) (a : Option Addr) (len cap : Nat) (zs : List Int) : Prop :=
  (a = none ∧ len = 0 ∧ cap = 0 ∧ zs = []) ∨
  ∃ x, a = some x ∧ len ≤ cap ∧ cap ≤ maxLen ∧ zs.length = cap ∧ (∀ i, i < zs.length → w.cell? (x.add i) = some (.int k (zs.getD i 0))) ∧ ∀ n ∈ zs, (Lit.int k n).wf = true
set_option maxRecDepth 100000 in
theorem lifted (os : Os) (started : os.Started) (H : Type) (enc : TypeId × Value → H) :
    ReturnsInHanded {} Try.checked os 4 .any (Rows.moveGoesSpec.pre6 enc Try.prog Try.f4 Rows.moveGoesRow.domain false) (Rows.moveGoesSpec.post enc Try.prog Try.f4 false true false false) := by
  refine returnsInHanded_of_change_sized (C := Try.checked) own started (by kernel_rfl) Try.func4
    (ChangeSpec.witness6 (enc := enc) (C := Try.checked) false ⟨#[], #[.slice none 0 0, .int .i64 0, .agg #[.string ⟨#[]⟩, .slice none 0 0, .int .i64 0]], []⟩ 8 (by kernel_rfl) (by kernel_rfl) (by kernel_rfl) (by kernel_rfl)) ?_
  intro W base args ds gs before hval0 hW hcnd hsz0 _
  have hsz : (DataW.weightsEach Try.prog (Try.f4.params.toList ++ Rows.moveGoesSpec.plain.varTypes Try.prog) (ds ++ gs)).all (· ≤ reachBytes) = true := hsz0
  have hval : ∀ (j : Nat) t v, Try.f4.params[j]? = some t → args[j]? = some v → Value.okWide Try.prog W .any base t v := hval0
  have hW' := hW
  obtain ⟨p, q, hA0, hV, rfl, hfz, hnd⟩ := hW
  have hA : DataW.TrodAll enc Try.prog W 0 (fun _ => true) true Try.f4.params.toList args.toList ds p := hA0
  rw [Try.params4] at hA hval hsz
  obtain ⟨v0, vs0, d0, ds0, p0, q0, hargs, rfl, rfl, h0, r0⟩ := trodAll_cons hA
  obtain ⟨v1, vs1, d1, ds1, p1, q1, rfl, rfl, rfl, h1, r1⟩ := trodAll_cons r0
  obtain ⟨v2, vs2, d2, ds2, p2, q2, rfl, rfl, rfl, h2, r2⟩ := trodAll_cons r1
  obtain ⟨rfl, rfl, rfl⟩ := trodAll_nil r2
  obtain rfl : args = #[v0, v1, v2] := by cases args; simp_all
  obtain ⟨rfl, rfl⟩ := trodVars_none hV
  obtain ⟨a0, len0, cap0, rfl⟩ := okWide_slice Try.underlying23 (hval 0 23 v0 rfl rfl)
  have k0 := h0
  have lt0 : ∀ x ∈ p0, x.block < W.heap.size := by obtain ⟨m, hm⟩ := k0; exact DataW.trod_lt m _ _ _ hm
  obtain ⟨z0, w0⟩ : ∃ zs, IsRow .u8 W a0 len0 cap0 zs := by
    obtain ⟨fuel, hf⟩ := h0
    rcases open_ints Try.underlying23 Try.underlying5 (by kernel_rfl) hf with ⟨hcs, _⟩ | ⟨x, l, c, zs, hcs, _, hl, hm, hz, _, hcell, hwz⟩
    · simp [Value.cells] at hcs
      obtain ⟨rfl, rfl, rfl⟩ := hcs
      exact ⟨[], .inl ⟨rfl, rfl, rfl, rfl⟩⟩
    · simp [Value.cells] at hcs
      obtain ⟨rfl, rfl, rfl⟩ := hcs
      exact ⟨zs, .inr ⟨_, rfl, hl, hm, by simpa using hz, hcell, hwz⟩⟩
  have y0 : len0 * 1 ≤ 140737488351232 := Go.Proofs.YtiibjehnlphabaaW.PrintWords.sized_ints hsz (j := 0) (t := 23) rfl rfl Try.underlying23 Try.underlying5 (by kernel_rfl) (by kernel_rfl) h0
  obtain ⟨l0, rfl, hS0⟩ := row_sl w0 y0
  obtain ⟨a1, rfl, rfl, rfl, w1⟩ := open_int Try.underlying3 (hval 1 3 v1 rfl rfl) h1
  have k2 := h2
  have lt2 : ∀ x ∈ p2, x.block < W.heap.size := by obtain ⟨m, hm⟩ := k2; exact DataW.trod_lt m _ _ _ hm
  obtain ⟨c20, c21, c22, y20, y21, y22, m2, rfl, rfl, rfl, hy20, hy21, hy22⟩ := Joins.open_agg3 Try.underlying29 (by kernel_rfl) cells29 (hval 2 29 v2 rfl rfl) h2
  obtain ⟨s2, e20, rfl, _⟩ := DataW.trod_string Try.underlying9 hy20
  obtain ⟨n2, e22, rfl, w22⟩ := DataW.trod_int Try.underlying3 hy22
  simp at e20 e22
  subst e20 e22
  have hsz2 : (DataW.weightsEach Try.prog [9, 23, 3] [.lit (.string s2.data.toList), y21.1, .lit (.int .i64 n2)]).all (· ≤ reachBytes) = true := by
    refine List.all_eq_true.2 fun x hx => ?_
    refine List.all_eq_true.1 hsz x (DataW.weights_mem_each (j := 2) (t := 29) rfl rfl x ?_)
    simp only [DataW.weights, Try.underlying29]
    exact hx
  obtain ⟨a2, len2, cap2, rfl⟩ : ∃ a n c, c21 = .slice a n c := by
    rcases open_ints Try.underlying23 Try.underlying5 (by kernel_rfl) hy21 with ⟨hcs, _⟩ | ⟨x, l, c, zs, hcs, _⟩
    · simp at hcs; exact ⟨_, _, _, hcs⟩
    · simp at hcs; exact ⟨_, _, _, hcs⟩
  have hf2 : DataW.Trod enc Try.prog W 0 (fun _ => true) true 23 (.slice a2 len2 cap2) y21.1 y21.2 := ⟨_, by simpa [Value.cells] using hy21⟩
  obtain ⟨z2, w2⟩ : ∃ zs, IsRow .u8 W a2 len2 cap2 zs := by
    rcases open_ints Try.underlying23 Try.underlying5 (by kernel_rfl) hy21 with ⟨hcs, _⟩ | ⟨x, l, c, zs, hcs, _, hl, hm, hz, _, hcell, hwz⟩
    · simp [Value.cells] at hcs
      obtain ⟨rfl, rfl, rfl⟩ := hcs
      exact ⟨[], .inl ⟨rfl, rfl, rfl, rfl⟩⟩
    · simp [Value.cells] at hcs
      obtain ⟨rfl, rfl, rfl⟩ := hcs
      exact ⟨zs, .inr ⟨_, rfl, hl, hm, by simpa using hz, hcell, hwz⟩⟩
  have y2 : len2 * 1 ≤ 140737488351232 := Go.Proofs.YtiibjehnlphabaaW.PrintWords.sized_ints hsz2 (j := 1) (t := 23) rfl rfl Try.underlying23 Try.underlying5 (by kernel_rfl) (by kernel_rfl) hf2
  obtain ⟨l2, rfl, hS2⟩ := row_sl w2 y2
  clear hA0 hval0 hsz0 hsz
  refine (lawGoes_calls hS0 a1 w1 hS2 s2 w22).mono fun e W' ⟨he, bel⟩ => ?_
  subst he
  exact ⟨_, rfl, _, _, _, [], _, [], hW', trodAll_mk1 (shut_bool Try.underlying4 _), (trodAll_cons_mk (Below.trod laidOut (by kernel_rfl) (of_decide_eq_true (by kernel_rfl)) k0 bel lt0) (trodAll_cons_mk (shut_int Try.underlying3 w1) (trodAll_cons_mk (Below.trod laidOut (by kernel_rfl) (of_decide_eq_true (by kernel_rfl)) k2 bel lt2) trodAll_mk0))), rfl, bel.frame _, fun h => by cases h⟩
theorem over : Rows.moveGoesRow.holds Try.pinned (OpenSpec.ofChange Rows.moveGoesSpec) :=
  OpenClaim.holds_of_wide 4 Try.f4 rfl rfl rfl rfl rfl rfl rfl ⟨rfl, rfl, rfl, rfl, rfl⟩ rfl rfl rfl rfl rfl (by kernel_rfl) Try.func4 (by kernel_rfl)
    (of_decide_eq_true (by kernel_rfl)) (by unfold Func.isWrapper; first | (rw [if_pos (by decide +kernel)]; kernel_rfl) | (rw [if_neg (by decide +kernel)]; exact ⟨rfl, rfl⟩))
    (fun os started H enc _ => lifted os started H enc)
theorem proved : Rows.MoveGoesSaid := over
end Go.Proofs.Ytiibjehnlphabaa.moveGoes
namespace Go.Proofs.Ytiibjehnlphabaa
theorem moveGoes_holds : Rows.MoveGoesSaid := moveGoes.proved
end Go.Proofs.Ytiibjehnlphabaa

end
