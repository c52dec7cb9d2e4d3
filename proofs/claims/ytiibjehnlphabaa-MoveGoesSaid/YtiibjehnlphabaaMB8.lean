/- Part 8 of what the proofs of chapter 23 share. A program joined it out of texts of this work; the functions named X.f and their contracts X.calls were first written by the print tool of the kit, in a copy that takes given contracts. -/
import Derived.Lib.SlBytesConst
import Derived.Lib.SmallJoins
import Derived.WalkKit
import Derived.Deep.QuietTactic
import Derived.BigQuiet
import Derived.Deep.RegionHeld3
import Derived.IntWalk
import Derived.Test.YtiibjehnlphabaaMB7
section
namespace Go.Proofs.Ytiibjehnlphabaa
open Go.RowKit Go.Proofs.YtiibjehnlphabaaW.PrintWords Go.Proofs.YtiibjehnlphabaaW.PrintMore Q
set_option linter.unusedVariables false
set_option linter.unusedSimpArgs false

theorem rnext_ev {l : List Int} (ok : OkL l) (i : Nat) : Ev (fun k => escritoireref1_Next.f k l (i : Int)) (rn l i, (sz l i : Int)) := by
  simp only [escritoireref1_Next.f]
  refine Ev.neg (by omega) (Ev.step (fun k => rfl) ?_)
  simp only [escritoireref1_Next.j0]
  by_cases hi : i < l.length
  · refine Ev.neg (by simp; omega) (Ev.bind (rsev_ev ok hi) ?_)
    have hc := sev_cast l i
    by_cases hs : 0 < sev l i
    · refine Ev.pos (by omega) (Ev.is (Ev.now _) ?_)
      simp only [rn, sz, if_pos hi, if_pos hs, hc]
    · refine Ev.neg (by omega) (Ev.pos (by omega) (Ev.pos (by omega) ?_))
      rw [rd_nat]
      have hb := ok.at_ hi
      by_cases h128 : l.getD i 0 < 128
      · refine Ev.pos h128 (Ev.is (Ev.now _) ?_)
        simp only [rn, sz, if_pos hi, if_neg hs, if_pos h128]
        rw [w64 (by omega) (by omega)]
        rfl
      · refine Ev.neg h128 (Ev.is (Ev.now _) ?_)
        simp only [rn, sz, if_pos hi, if_neg hs, if_neg h128]
        rfl
  · refine Ev.pos (by simp; omega) (Ev.is (Ev.now _) ?_)
    simp only [rn, sz, if_neg hi]
    rfl
theorem rclass_ev (r : Int) : Ev (fun k => escritoireref1_Class.f k r) (cls r) := by
  simp only [escritoireref1_Class.f]
  have tail : ∀ b : Bool, (b = true ↔ r = 9 ∨ r = 10 ∨ r = 13 ∨ r = 32) → Ev (fun k => escritoireref1_Class.j0 k r b) (cls r) := by
    intro b hb
    refine Ev.step (fun k => rfl) ?_
    simp only [escritoireref1_Class.j0]
    unfold cls
    by_cases h0 : r = 9 ∨ r = 10 ∨ r = 13 ∨ r = 32
    · rw [if_pos h0]
      exact Ev.pos (hb.2 h0) (Ev.now _)
    · rw [if_neg h0]
      refine Ev.neg (fun h => h0 (hb.1 h)) ?_
      by_cases h1 : 97 ≤ r <;> by_cases h2 : r ≤ 122 <;> by_cases h3 : 65 ≤ r <;> by_cases h4 : r ≤ 90 <;> by_cases h5 : 48 ≤ r <;> by_cases h6 : r ≤ 57 <;> by_cases h7 : r = 95 <;> by_cases h8 : 127 < r
      all_goals first
        | (exfalso; omega)
        | (refine Ev.is (Ev.now _) ?_; simp [h1, h2, h3, h4, h5, h6, h7, h8]; done)
        | (simp [h1, h2, h3, h4, h5, h6, h7, h8]; exact Ev.now _)
  by_cases a : r = 9
  · exact Ev.pos a (tail true (by simp [a]))
  · refine Ev.neg a ?_
    by_cases b : r = 10
    · exact Ev.pos b (tail true (by simp [b]))
    · refine Ev.neg b ?_
      by_cases c : r = 13
      · exact Ev.pos c (tail true (by simp [c]))
      · exact Ev.neg c (tail (r == 32) (by simp [a, b, c]))
theorem rsize_ev {l : List Int} (ok : OkL l) (i : Nat) : Ev (fun k => escritoireref23_size.f k l (i : Int)) (sz l i : Int) := by
  simp only [escritoireref23_size.f]
  exact Ev.bind (rnext_ev ok i) (Ev.now _)
theorem rkls_ev {l : List Int} (ok : OkL l) (i : Nat) : Ev (fun k => escritoireref23_class.f k l (i : Int)) (kls l i) := by
  simp only [escritoireref23_class.f]
  exact Ev.bind (rnext_ev ok i) (Ev.bind (rclass_ev _) (Ev.now _))
theorem rlast_ev {l : List Int} (ok : OkL l) {i : Nat} (hi : i ≤ l.length) : Ev (fun k => escritoireref1_Last.f k l (i : Int)) (lastSz l i : Int) := by
  have hsz := ok.size
  simp only [escritoireref1_Last.f]
  by_cases h1 : i < 1
  · refine Ev.pos (by omega) (Ev.step (fun k => rfl) ?_)
    simp only [escritoireref1_Last.j0]
    refine Ev.pos trivial (Ev.is (Ev.now _) ?_)
    unfold lastSz
    rw [if_pos (Or.inl h1)]
    rfl
  · refine Ev.neg (by omega) (Ev.step (fun k => rfl) ?_)
    simp only [escritoireref1_Last.j0]
    refine Ev.neg (by simp; omega) ?_
    have h5 : Ev (fun k => escritoireref1_Last.l0 k l (i : Int) (5 : Int)) 1 := by
      refine Ev.step (fun k => rfl) ?_
      simp only [escritoireref1_Last.l0]
      refine Ev.neg (by omega) (Ev.step (fun k => rfl) ?_)
      simp only [escritoireref1_Last.j2]
      exact Ev.neg (by simp) (Ev.now _)
    have step : ∀ (n : Nat) (r : Int), 2 ≤ n → n ≤ 4 → (n ≤ i → ¬ sev l (i - n) = n → Ev (fun k => escritoireref1_Last.l0 k l (i : Int) ((n + 1 : Nat) : Int)) r) → (¬ n ≤ i → r = 1) →
        Ev (fun k => escritoireref1_Last.l0 k l (i : Int) (n : Int)) (if n ≤ i ∧ sev l (i - n) = n then (n : Int) else r) := by
      intro n r h2 h4 hr hr1
      refine Ev.step (fun k => rfl) ?_
      simp only [escritoireref1_Last.l0]
      refine Ev.pos (by omega) (Ev.step (fun k => rfl) ?_)
      simp only [escritoireref1_Last.j2]
      by_cases hni : n ≤ i
      · refine Ev.pos (by simp; omega) ?_
        rw [w64 (n := (i : Int) - n) (by omega) (by omega), w64 (n := (n : Int) + 1) (by omega) (by omega), show (i : Int) - (n : Int) = ((i - n : Nat) : Int) by omega]
        refine Ev.bind (rsev_ev ok (by omega)) ?_
        have hc := sev_cast l (i - n)
        by_cases hs : sev l (i - n) = n
        · rw [if_pos ⟨hni, hs⟩]
          exact Ev.pos (by omega) (Ev.now _)
        · rw [if_neg (by omega)]
          exact Ev.neg (by omega) (hr hni hs)
      · rw [if_neg (by omega), hr1 hni]
        exact Ev.neg (by simp; omega) (Ev.now _)
    have k4 := step 4 1 (by omega) (by omega) (fun _ _ => h5) (fun _ => rfl)
    have k3 := step 3 _ (by omega) (by omega) (fun _ _ => k4) (fun h => by rw [if_neg (by omega)])
    have k2 := step 2 _ (by omega) (by omega) (fun _ _ => k3) (fun h => by rw [if_neg (by omega), if_neg (by omega)])
    refine Ev.is k2 ?_
    simp only [lastSz, if_neg (show ¬ (i < 1 ∨ l.length < i) by omega)]
    by_cases a2 : 2 ≤ i ∧ sev l (i - 2) = 2
    · simp only [if_pos a2]
    · by_cases a3 : 3 ≤ i ∧ sev l (i - 3) = 3
      · simp only [if_neg a2, if_pos a3]
      · by_cases a4 : 4 ≤ i ∧ sev l (i - 4) = 4
        · simp only [if_neg a2, if_neg a3, if_pos a4]
        · simp only [if_neg a2, if_neg a3, if_neg a4]; rfl
theorem rbegins_ev {l : List Int} (ok : OkL l) {i : Nat} (hi : i ≤ l.length) : Ev (fun k => escritoireref1_Begins.f k l (i : Int)) (begins l i) := by
  have hsz := ok.size
  simp only [escritoireref1_Begins.f]
  refine Ev.neg (by omega) (Ev.step (fun k => rfl) ?_)
  simp only [escritoireref1_Begins.j0]
  refine Ev.neg (by simp; omega) ?_
  by_cases hlt : i < l.length
  · have done : ∀ n : Nat, 1 ≤ n → ¬ (n ≤ 3 ∧ n ≤ i) → Ev (fun k => escritoireref1_Begins.l0 k l (i : Int) (n : Int)) true := by
      intro n h1 hn
      refine Ev.step (fun k => rfl) ?_
      simp only [escritoireref1_Begins.l0]
      by_cases h3 : n ≤ 3
      · refine Ev.pos (by omega) (Ev.neg (by omega) (Ev.step (fun k => rfl) ?_))
        simp only [escritoireref1_Begins.j2]
        exact Ev.neg (by simp) (Ev.now _)
      · refine Ev.neg (by omega) (Ev.step (fun k => rfl) ?_)
        simp only [escritoireref1_Begins.j2]
        exact Ev.neg (by simp) (Ev.now _)
    have step : ∀ (n : Nat) (r : Bool), 1 ≤ n → n ≤ 3 → Ev (fun k => escritoireref1_Begins.l0 k l (i : Int) ((n + 1 : Nat) : Int)) r → (i < n → r = true) → Ev (fun k => escritoireref1_Begins.l0 k l (i : Int) (n : Int)) ((decide (i < n) || decide (sev l (i - n) ≤ n)) && r) := by
      intro n r h1 h3 hr hr1
      by_cases hni : n ≤ i
      · refine Ev.step (fun k => rfl) ?_
        simp only [escritoireref1_Begins.l0]
        refine Ev.pos (by omega) (Ev.pos (by omega) (Ev.step (fun k => rfl) ?_))
        simp only [escritoireref1_Begins.j2]
        refine Ev.pos (by simp; omega) ?_
        rw [w64 (n := (i : Int) - n) (by omega) (by omega), w64 (n := (n : Int) + 1) (by omega) (by omega), show (i : Int) - (n : Int) = ((i - n : Nat) : Int) by omega]
        refine Ev.bind (rsev_ev ok (by omega)) ?_
        have hc := sev_cast l (i - n)
        by_cases hs : sev l (i - n) ≤ n
        · exact Ev.neg (by omega) (Ev.is hr (by simp [hs]))
        · exact Ev.pos (by omega) (Ev.is (Ev.now _) (by simp [hs, show ¬ i < n by omega]))
      · have := hr1 (by omega)
        exact Ev.is (done n h1 (by omega)) (by simp [show i < n by omega, this])
    have s3 := step 3 true (by omega) (by omega) (done 4 (by omega) (by omega)) (fun _ => rfl)
    have s2 := step 2 _ (by omega) (by omega) s3 (fun h => by simp [show i < 3 by omega])
    have s1 := step 1 _ (by omega) (by omega) s2 (fun h => by simp [show i < 3 by omega, show i < 2 by omega])
    refine Ev.is s1 ?_
    unfold begins
    simp only [hi, decide_true, Bool.true_and, Bool.and_true, Bool.and_assoc]
  · obtain rfl : i = l.length := by omega
    rw [begins_len]
    refine Ev.step (fun k => rfl) ?_
    simp only [escritoireref1_Begins.l0]
    refine Ev.pos (by omega) ?_
    by_cases h1 : (1 : Int) ≤ (l.length : Int)
    · refine Ev.pos h1 (Ev.step (fun k => rfl) ?_)
      simp only [escritoireref1_Begins.j2]
      exact Ev.neg (by simp) (Ev.now _)
    · refine Ev.neg h1 (Ev.step (fun k => rfl) ?_)
      simp only [escritoireref1_Begins.j2]
      exact Ev.neg (by simp) (Ev.now _)
theorem rplaceL_ev {l : List Int} (ok : OkL l) : ∀ i, i ≤ l.length → Ev (fun k => escritoireref23_place.l0 k l (i : Int)) (placeN l i : Int)
  | 0, hi => by
    refine Ev.step (fun k => rfl) ?_
    simp only [escritoireref23_place.l0]
    exact Ev.bind (rbegins_ev ok hi) (Ev.pos (begins_zero l) (Ev.now _))
  | n + 1, hi => by
    have hsz := ok.size
    refine Ev.step (fun k => rfl) ?_
    simp only [escritoireref23_place.l0]
    refine Ev.bind (rbegins_ev ok hi) ?_
    simp only [placeN]
    by_cases hb : begins l (n + 1) = true
    · rw [if_pos hb]
      exact Ev.pos hb (Ev.now _)
    · rw [if_neg hb]
      refine Ev.neg hb ?_
      rw [w64 (by omega) (by omega), show (((n + 1 : Nat) : Int) - 1) = (n : Int) by omega]
      exact rplaceL_ev ok n (by omega)
theorem rplace_ev {l : List Int} (ok : OkL l) (a : Int) : Ev (fun k => escritoireref23_place.f k l a) (place l a : Int) := by
  simp only [escritoireref23_place.f]
  have e : mn (mx a 0) (l.length : Int) = ((min a.toNat l.length : Nat) : Int) := by unfold mx mn; split <;> split <;> omega
  rw [e]
  exact rplaceL_ev ok _ (by omega)
theorem rstart_ev {l : List Int} (ok : OkL l) : ∀ {i : Nat}, i ≤ l.length → Ev (fun k => escritoireref23_start.f k l (i : Int)) (start l i : Int)
  | 0, h => by
    simp only [escritoireref23_start.f]
    refine Ev.step (fun k => rfl) ?_
    simp only [escritoireref23_start.l0]
    exact Ev.neg (by omega) (Ev.now _)
  | n + 1, h => by
    have hsz := ok.size
    have ih := rstart_ev ok (i := n) (by omega)
    simp only [escritoireref23_start.f] at ih ⊢
    refine Ev.step (fun k => rfl) ?_
    simp only [escritoireref23_start.l0]
    rw [w64 (by omega) (by omega), show (((n + 1 : Nat) : Int) - 1) = (n : Int) by omega, rd_nat]
    refine Ev.pos (by omega) (Ev.pos (by omega) (Ev.pos (by omega) ?_))
    simp only [start]
    by_cases h10 : l.getD n 0 = 10
    · rw [if_pos h10]
      exact Ev.pos h10 (Ev.now _)
    · rw [if_neg h10]
      exact Ev.neg h10 ih
theorem fin_step {l : List Int} {i : Nat} (h : i < l.length) : fin l i = if l.getD i 0 = 10 then i else fin l (i + 1) := by
  have hd : l.drop i = l.getD i 0 :: l.drop (i + 1) := by
    rw [List.drop_eq_getElem_cons h, List.getD_eq_getElem?_getD, List.getElem?_eq_getElem h]
    rfl
  unfold fin tillNl
  rw [hd, List.takeWhile_cons]
  by_cases h10 : l.getD i 0 = 10
  · have : (l.getD i 0 != 10) = false := by rw [h10]; rfl
    rw [if_pos h10, this]; rfl
  · rw [if_neg h10]
    have : (l.getD i 0 != 10) = true := by simp only [bne_iff_ne]; exact h10
    rw [this]
    simp only [if_true, List.length_cons]
    omega
theorem fin_out {l : List Int} {i : Nat} (h : ¬ i < l.length) : fin l i = i := by
  unfold fin tillNl
  rw [List.drop_eq_nil_of_le (by omega)]
  rfl
theorem rendL_ev {l : List Int} (ok : OkL l) : ∀ (n i : Nat), l.length - i ≤ n → i ≤ l.length → Ev (fun k => escritoireref23_end.l0 k l (i : Int)) (fin l i : Int)
  | 0, i, hn, hi => by
    rw [fin_out (by omega)]
    refine Ev.step (fun k => rfl) ?_
    simp only [escritoireref23_end.l0]
    exact Ev.neg (by omega) (Ev.now _)
  | n + 1, i, hn, hi => by
    have hsz := ok.size
    refine Ev.step (fun k => rfl) ?_
    simp only [escritoireref23_end.l0]
    by_cases hlt : i < l.length
    · rw [fin_step hlt, rd_nat]
      refine Ev.pos (by omega) (Ev.pos (by omega) ?_)
      by_cases h10 : l.getD i 0 = 10
      · rw [if_pos h10]
        exact Ev.pos h10 (Ev.now _)
      · rw [if_neg h10, w64 (by omega) (by omega)]
        exact Ev.neg h10 (rendL_ev ok n (i + 1) (by omega) (by omega))
    · rw [fin_out hlt]
      exact Ev.neg (by omega) (Ev.now _)
theorem rend_ev {l : List Int} (ok : OkL l) {i : Nat} (hi : i ≤ l.length) : Ev (fun k => escritoireref23_end.f k l (i : Int)) (fin l i : Int) := by
  simp only [escritoireref23_end.f]
  exact rendL_ev ok _ _ (Nat.le_refl _) hi
theorem rStart_ev {l : List Int} (ok : OkL l) (a : Int) : Ev (fun k => escritoireref23_Start.f k l a) (start l (place l a) : Int) := by
  simp only [escritoireref23_Start.f]
  exact Ev.bind (rplace_ev ok a) (Ev.bind (rstart_ev ok (place_le l a)) (Ev.now _))
theorem rEnd_ev {l : List Int} (ok : OkL l) (a : Int) : Ev (fun k => escritoireref23_End.f k l a) (fin l (place l a) : Int) := by
  simp only [escritoireref23_End.f]
  exact Ev.bind (rplace_ev ok a) (Ev.bind (rend_ev ok (place_le l a)) (Ev.now _))
theorem rRest_ev {l : List Int} (ok : OkL l) (a : Int) : Ev (fun k => escritoireref23_Rest.f k l a) (rest l (place l a) : Int) := by
  have hsz := ok.size
  have hp := place_le l a
  simp only [escritoireref23_Rest.f]
  refine Ev.bind (rplace_ev ok a) (Ev.bind (rend_ev ok hp) ?_)
  generalize place l a = i at *
  unfold rest
  by_cases h1 : i = fin l i
  · refine Ev.pos (by omega) (Ev.bind (rstart_ev ok hp) ?_)
    by_cases h2 : start l i < i
    · rw [if_pos ⟨h1, h2⟩]
      have := lastSz_pos (l := l) (i := i) (by omega) hp
      exact Ev.pos (by omega) (Ev.bind (rlast_ev ok hp) (Ev.is (Ev.now _) (by rw [w64 (by omega) (by omega)]; omega)))
    · rw [if_neg (by omega)]
      exact Ev.neg (by omega) (Ev.now _)
  · rw [if_neg (by omega)]
    exact Ev.neg (by omega) (Ev.now _)
theorem fin_begins {l : List Int} {i : Nat} (hi : i ≤ l.length) : begins l (fin l i) = true := by
  by_cases h : fin l i < l.length
  · exact begins_at h (by rw [fin_nl h]; omega)
  · have := (fin_le hi).2
    rw [show fin l i = l.length by omega]
    exact begins_len l
theorem rRestB_ev {l : List Int} (ok : OkL l) {i : Nat} (hb : begins l i = true) : Ev (fun k => escritoireref23_Rest.f k l (i : Int)) (rest l i : Int) := by
  have := rRest_ev ok (i : Int)
  rwa [place_self hb] at this
theorem rfirstL_ev {l : List Int} (ok : OkL l) (tt : Nat) (htt : tt ≤ l.length) (hbt : begins l tt = true) : ∀ (n i : Nat), l.length - i ≤ n → i ≤ l.length →
    Ev (fun k => escritoireref23_First.l0 k l (tt : Int) (i : Int)) (((let q := whileOn (fun j => decide (j < tt) && decide (kls l j = 0)) l i; if q < tt then q else rest l tt) : Nat) : Int) := by
  intro n
  have hsz := ok.size
  induction n with
  | zero =>
    intro i h hi
    refine Ev.step (fun k => rfl) ?_
    simp only [escritoireref23_First.l0]
    rw [whileOn_neg (by omega), if_neg (by omega)]
    exact Ev.neg (by omega) (Ev.bind (rRestB_ev ok hbt) (Ev.now _))
  | succ n ih =>
    intro i h hi
    refine Ev.step (fun k => rfl) ?_
    simp only [escritoireref23_First.l0]
    by_cases hlt : i < tt
    · refine Ev.pos (by omega) (Ev.bind (rkls_ev ok i) ?_)
      by_cases hk : kls l i = 0
      · have hg := on_gt (show i < l.length by omega)
        refine Ev.pos hk (Ev.bind (rsize_ev ok i) ?_)
        rw [whileOn_pos (by omega) (by simp [hlt, hk])]
        unfold on at hg
        rw [w64 (by omega) (by omega), show (i : Int) + (sz l i : Int) = (on l i : Int) by unfold on; omega]
        exact ih _ (by unfold on; omega) (by unfold on; omega)
      · rw [whileOn_neg (by simp [hk]), if_pos hlt]
        exact Ev.neg hk (Ev.now _)
    · rw [whileOn_neg (by simp [hlt]), if_neg hlt]
      exact Ev.neg (by omega) (Ev.bind (rRestB_ev ok hbt) (Ev.now _))
theorem rFirst_ev {l : List Int} (ok : OkL l) (a : Int) : Ev (fun k => escritoireref23_First.f k l a) (first l (place l a) : Int) := by
  have hp := place_le l a
  simp only [escritoireref23_First.f]
  refine Ev.bind (rplace_ev ok a) (Ev.bind (rend_ev ok hp) (Ev.bind (rstart_ev ok hp) ?_))
  exact rfirstL_ev ok _ (fin_le hp).2 (fin_begins hp) _ _ (Nat.le_refl _) (Nat.le_trans (start_le l _) hp)
theorem rcountL_ev {l : List Int} (ok : OkL l) : ∀ (f i : Nat) (c : Nat), l.length - i ≤ f → i ≤ l.length → c ≤ i → Ev (fun k => escritoireref1_Count.l0 k l (c : Int) (i : Int)) (((c + cnt l f i : Nat)) : Int)
  | 0, i, c, h, hi, hc => by
    refine Ev.step (fun k => rfl) ?_
    simp only [escritoireref1_Count.l0]
    exact Ev.neg (by omega) (Ev.is (Ev.now _) (by simp [cnt]))
  | f + 1, i, c, h, hi, hc => by
    have hsz := ok.size
    refine Ev.step (fun k => rfl) ?_
    simp only [escritoireref1_Count.l0]
    by_cases hlt : i < l.length
    · have hg := on_gt hlt
      refine Ev.pos (by omega) (Ev.bind (rnext_ev ok i) ?_)
      have e : wrap64 ((i : Int) + ((rn l i, (sz l i : Int)) : Int × Int).2) = (on l i : Int) := by
        unfold on at *
        rw [w64 (by simp only []; omega) (by simp only []; omega)]
        simp
      rw [e, w64 (by omega) (by omega), show ((c : Int) + 1) = ((c + 1 : Nat) : Int) by omega]
      refine Ev.is (rcountL_ev ok f (on l i) (c + 1) (by omega) (by omega) (by omega)) ?_
      simp only [cnt, if_pos hlt]
      omega
    · refine Ev.neg (by omega) (Ev.is (Ev.now _) ?_)
      simp only [cnt, if_neg hlt]
      rfl
theorem rcount_ev {l : List Int} (ok : OkL l) : Ev (fun k => escritoireref1_Count.f k l) (count l : Int) := by
  simp only [escritoireref1_Count.f]
  have := rcountL_ev ok l.length 0 0 (by omega) (by omega) (by omega)
  simpa [count] using this
theorem rColumn_ev {l : List Int} (ok : OkL l) (a : Int) : Ev (fun k => escritoireref23_Column.f k l a) (column l (place l a) : Int) := by
  simp only [escritoireref23_Column.f]
  have hp := place_le l a
  have hs := start_le l (place l a)
  refine Ev.bind (rplace_ev ok a) (Ev.bind (rstart_ev ok hp) (Ev.pos (by omega) (Ev.pos (by omega) (Ev.pos (by omega) ?_))))
  exact Ev.bind (rcount_ev ((ok.take _).drop _)) (Ev.now _)
theorem rplaceColL_ev {l : List Int} (ok : OkL l) (tt : Nat) (htt : tt ≤ l.length) (c : Int) (hc : c ≤ 9223372036854775807) : ∀ (n i : Nat) (j : Int), 0 ≤ j → l.length - i ≤ n → i ≤ l.length →
    Ev (fun k => escritoireref23_Place.l0 k l c (i : Int) (tt : Int) j) (along l tt (c - j).toNat i : Int) := by
  intro n
  have hsz := ok.size
  induction n with
  | zero =>
    intro i j hj h hi
    refine Ev.step (fun k => rfl) ?_
    simp only [escritoireref23_Place.l0]
    have e : along l tt (c - j).toNat i = i := by
      cases (c - j).toNat with
      | zero => rfl
      | succ m => simp only [along]; rw [if_neg (by omega)]
    rw [e]
    by_cases h0 : j < c
    · exact Ev.pos h0 (Ev.neg (by omega) (Ev.now _))
    · exact Ev.neg h0 (Ev.now _)
  | succ n ih =>
    intro i j hj h hi
    refine Ev.step (fun k => rfl) ?_
    simp only [escritoireref23_Place.l0]
    by_cases h0 : j < c
    · obtain ⟨m, hm⟩ : ∃ m, (c - j).toNat = m + 1 := ⟨(c - j).toNat - 1, by omega⟩
      rw [hm]
      simp only [along]
      refine Ev.pos h0 ?_
      by_cases hlt : i < tt
      · have hg := on_gt (show i < l.length by omega)
        rw [if_pos hlt]
        refine Ev.pos (by omega) (Ev.bind (rsize_ev ok i) ?_)
        unfold on at hg
        rw [w64 (n := j + 1) (by omega) (by omega), w64 (by omega) (by omega), show (i : Int) + (sz l i : Int) = (on l i : Int) by unfold on; omega]
        have := ih (on l i) (j + 1) (by omega) (by unfold on; omega) (by unfold on; omega)
        rwa [show (c - (j + 1)).toNat = m by omega] at this
      · rw [if_neg hlt]
        exact Ev.neg (by omega) (Ev.now _)
    · rw [show (c - j).toNat = 0 by omega]
      exact Ev.neg h0 (Ev.now _)
theorem rPlace_ev {l : List Int} (ok : OkL l) (a c : Int) (hc : c ≤ 9223372036854775807) : Ev (fun k => escritoireref23_Place.f k l a c) (colAt l (place l a) c.toNat : Int) := by
  simp only [escritoireref23_Place.f]
  have hp := place_le l a
  refine Ev.bind (rplace_ev ok a) (Ev.bind (rstart_ev ok hp) (Ev.bind (rend_ev ok hp) ?_))
  have := rplaceColL_ev ok (fin l (place l a)) (fin_le hp).2 c hc _ (start l (place l a)) 0 (by omega) (Nat.le_refl _) (Nat.le_trans (start_le l _) hp)
  rwa [Int.sub_zero] at this
end Go.Proofs.Ytiibjehnlphabaa

end

section
namespace Go.Proofs.Ytiibjehnlphabaa
open Go.RowKit Go.Proofs.YtiibjehnlphabaaW.PrintWords Go.Proofs.YtiibjehnlphabaaW.PrintMore Q
set_option linter.unusedVariables false
set_option linter.unusedSimpArgs false
/-- A literal's row. -/
theorem lit_sl (w : World) {xs : List Int} {C : Array Value} (hC : C = (xs.map (Value.int .u8)).toArray) (ok : OkL xs) {c : Nat} (hc : xs.length ≤ c) (fr : Nat × Nat) (g : Nat) (hg : g = w.heap.size) : Sl (w.alloc (.cells C 5 fr)) (some ⟨g, 0, none⟩) c xs := by
  subst hC hg
  refine ⟨Kd.C_of_reads (enc := Value.int .u8) (d := (0 : Int)) (h1 := fun _ => rfl) ⟨rfl, by have := ok.size; omega, fun _ => ⟨_, rfl, fun j hj => ?_⟩⟩, hc, ok⟩
  rw [Addr.add_lit, Nat.zero_add]
  refine (World.cell?_alloc_mark w _ 5 fr j).trans ?_
  simp [List.getD_eq_getElem?_getD, hj]
theorem nil_sl (w : World) : Sl w none 0 [] := ⟨Kd.C_nil _ _, Nat.le_refl _, ⟨rfl, by simp⟩⟩
theorem c_Rest {A : Option Addr} {c : Nat} {l : List Int} {w : World} (h : Sl w A c l) (a : Int) : Calls Try.prog 18 #[.slice A l.length c, .int .i64 a] w fun e w' => e = .returned (.int .i64 (rest l (place l a) : Int)) ∧ Below w.heap.size w w' := by
  obtain ⟨k, e⟩ := (Rest_ev h.ok a).rounds
  exact move_Rest.calls k A c l a _ w h.reads h.cap e
set_option maxRecDepth 100000 in
theorem awake_calls (w : World) : Calls Try.prog 12 #[] w fun e w' => e = .returned (.bool true) ∧ Below w.heap.size w w' := by
  have kc := fun (w : World) (C : Array Value) (n c g : Nat) (hg : g = w.heap.size) => Joins.run_convert_bytes_const_at (P := Try.prog) w 23 5 C n c g hg Try.underlying23 Try.underlying5
  have hm : motion [97, 98, 32, 99, 100] (place [97, 98, 32, 99, 100] 0) (⟨#[119]⟩ : ByteArray).toList [] 0 false = some (3, false, false) := by
    rw [Lib.toList_data]
    decide +kernel
  have hr : ((rest [97, 98] (place [97, 98] 2) : Nat) : Int) = 1 := by decide +kernel
  go_enter Try.func12, Try.ntmps12
  go_wp2_with fail
  refine (Go_calls (l := [97, 98, 32, 99, 100]) (a := []) (lit_sl w rfl ⟨by decide, by decide⟩ (by decide) _ _ rfl) (nil_sl _) 0 (by omega) (by omega) _ hm).mono ?_
  rintro e w1 ⟨rfl, hb⟩
  simp only [goV, goalV]
  have HB : Aside0 (Below w.heap.size w w1) := ⟨(below_alloc (Below.refl _ _) _).trans (hb.mono (by simp))⟩
  clear hb hm
  go_wp2_with fail
  refine (c_Rest (l := [97, 98]) (lit_sl (w1.alloc (.cells #[.int .i64 3, .bool false, .bool false] 25)) rfl ⟨by decide, by decide⟩ (by decide) _ _ (by simp)) 2).mono ?_
  rintro e w2 ⟨rfl, hb⟩
  have HB2 : Aside0 (Below w.heap.size w w2) := ⟨HB.out.trans ((below_alloc (below_alloc (Below.refl _ _) _) _).trans (hb.mono (by simp; omega)) |>.mono HB.out.size)⟩
  clear hb HB
  go_wp2_with fail
  go_ret
  exact ⟨rfl, HB2.out⟩
namespace Q
end Q
end Go.Proofs.Ytiibjehnlphabaa

end

section
namespace Go.Proofs.Ytiibjehnlphabaa
theorem ok_of {l : List Int} (h1 : l.length * 1 ≤ 140737488351232) (h2 : ∀ x ∈ l, (Lit.int .u8 x).wf = true) : OkL l := by
  refine ⟨List.all_eq_true.2 fun x hx => ?_, by omega⟩
  have := h2 x hx
  simp [Lit.wf, byteB] at this ⊢
  have e1 : IntKind.u8.min = 0 := by decide
  have e2 : IntKind.u8.max = 255 := by decide
  omega
theorem i64_of {x : Int} (h : (Lit.int .i64 x).wf = true) : -9223372036854775808 ≤ x ∧ x ≤ 9223372036854775807 := by
  simp [Lit.wf] at h
  have e1 : IntKind.i64.min = -9223372036854775808 := by decide
  omega
end Go.Proofs.Ytiibjehnlphabaa

end

section
namespace Go.Proofs.Ytiibjehnlphabaa
open Go.RowKit Go.Proofs.YtiibjehnlphabaaW.PrintWords Go.Proofs.YtiibjehnlphabaaW.PrintMore Q
set_option linter.unusedVariables false
set_option linter.unusedSimpArgs false
/-- A goal's block. -/
def Gb (w : World) (g : Nat) (x : Int) (y z : Bool) : Prop := w.heap[g]? = some (.cells #[.int .i64 x, .bool y, .bool z] 25 (0, 0))
theorem Gb.lt {w : World} {g : Nat} {x : Int} {y z : Bool} (h : Gb w g x y z) : g < w.heap.size := by
  rcases Nat.lt_or_ge g w.heap.size with hlt | hge
  · exact hlt
  · unfold Gb at h; rw [Array.getElem?_eq_none hge] at h; cases h
theorem Gb.below {w w' : World} {g : Nat} {x : Int} {y z : Bool} (h : Gb w g x y z) (hb : Below w.heap.size w w') : Gb w' g x y z := (hb.block g h.lt).trans h
theorem Gb.cells {w : World} {g : Nat} {x : Int} {y z : Bool} (h : Gb w g x y z) : w.cell? ⟨g, 0, none⟩ = some (.int .i64 x) ∧ w.cell? ⟨g, 1, none⟩ = some (.bool y) ∧ w.cell? ⟨g, 2, none⟩ = some (.bool z) := by
  unfold Gb at h
  exact ⟨by simp [World.cell?, h], by simp [World.cell?, h], by simp [World.cell?, h]⟩
theorem Gb.new (w : World) (x : Int) (y z : Bool) : Gb (w.alloc (.cells #[.int .i64 x, .bool y, .bool z] 25)) w.heap.size x y z := heap_alloc_new w _
/-- What stands between two calls: the bytes, and the goals' blocks. -/
structure Ls (w0 w : World) (A : Option Addr) (c : Nat) (l : List Int) (gs : List (Nat × Int × Bool × Bool)) : Prop where
  sl : Sl w A c l
  bel : Below w0.heap.size w0 w
  box : ∀ p ∈ gs, Gb w p.1 p.2.1 p.2.2.1 p.2.2.2
section
variable {w0 w w1 : World} {A : Option Addr} {c : Nat} {l : List Int} {gs : List (Nat × Int × Bool × Bool)}
theorem Ls.begin_ (h : Sl w A c l) : Ls w w A c l [] := ⟨h, Below.refl _ _, fun p hp => by cases hp⟩
theorem Ls.two (h : Ls w0 w A c l gs) (hb : Below w.heap.size w w1) : Ls w0 w1 A c l gs :=
  ⟨h.sl.below hb, h.bel.trans (hb.mono h.bel.size), fun p hp => (h.box p hp).below hb⟩
theorem Ls.step {w2 : World} (h : Ls w0 w A c l gs) (h1 : Below w.heap.size w w1) (h2 : Below w1.heap.size w1 w2) : Ls w0 w2 A c l gs := (h.two h1).two h2
theorem Ls.goal (h : Ls w0 w A c l gs) (x : Int) (y z : Bool) : Ls w0 (w.alloc (.cells #[.int .i64 x, .bool y, .bool z] 25)) A c l ((w.heap.size, x, y, z) :: gs) := by
  have hb := below_alloc (Below.refl w.heap.size w) (.cells #[.int .i64 x, .bool y, .bool z] 25)
  have h2 := h.two hb
  refine ⟨h2.sl, h2.bel, fun p hp => ?_⟩
  rcases List.mem_cons.1 hp with rfl | hp
  · exact Gb.new w x y z
  · exact h2.box p hp
theorem Ls.cells (h : Ls w0 w A c l gs) {g : Nat} {x : Int} {y z : Bool} (hp : (g, x, y, z) ∈ gs) : w.cell? ⟨g, 0, none⟩ = some (.int .i64 x) ∧ w.cell? ⟨g, 1, none⟩ = some (.bool y) ∧ w.cell? ⟨g, 2, none⟩ = some (.bool z) := (h.box _ hp).cells
end
theorem Ls.bare {w0 w : World} {A : Option Addr} {c : Nat} {l : List Int} {gs : List (Nat × Int × Bool × Bool)} (h : Ls w0 w A c l gs) : Ls w0 w A c l [] := ⟨h.sl, h.bel, fun p hp => by cases hp⟩
/-- A goal's block is written again. -/
theorem Ls.laid {w0 w : World} {A : Option Addr} {c : Nat} {l : List Int} {gs : List (Nat × Int × Bool × Bool)} (h0 : Sl w0 A c l) (h : Ls w0 w A c l gs) {g : Nat} {x : Int} {y z : Bool} (hg : (g, x, y, z) ∈ gs) (hlt : w0.heap.size ≤ g) (x' : Int) (y' z' : Bool) :
    Ls w0 (((w.setCell ⟨g, 0, none⟩ (.int .i64 x')).setCell ⟨g, 1, none⟩ (.bool y')).setCell ⟨g, 2, none⟩ (.bool z')) A c l [(g, x', y', z')] := by
  have hb : Below w0.heap.size w0 (((w.setCell ⟨g, 0, none⟩ (.int .i64 x')).setCell ⟨g, 1, none⟩ (.bool y')).setCell ⟨g, 2, none⟩ (.bool z')) := ((h.bel.setCell (p := ⟨g, 0, none⟩) hlt _).setCell (p := ⟨g, 1, none⟩) hlt _).setCell (p := ⟨g, 2, none⟩) hlt _
  refine ⟨h0.below hb, hb, fun p hp => ?_⟩
  have h1 := h.box _ hg
  simp only [List.mem_cons, List.not_mem_nil, or_false] at hp
  subst hp
  unfold Gb at h1 ⊢
  simp only at h1
  simp [World.setCell, Array.getElem?_modify, h1]
theorem Ls.free {w0 w : World} {A : Option Addr} {c : Nat} {l : List Int} {gs : List (Nat × Int × Bool × Bool)} (h : Ls w0 w A c l gs) {g : Nat} {x : Int} {y z : Bool} (hp : (g, x, y, z) ∈ gs) : w.frozen? ⟨g, 0, none⟩ = false ∧ w.frozen? ⟨g, 1, none⟩ = false ∧ w.frozen? ⟨g, 2, none⟩ = false := by
  have h1 := h.box _ hp
  unfold Gb at h1
  simp only at h1
  exact ⟨by simp [World.frozen?, h1], by simp [World.frozen?, h1], by simp [World.frozen?, h1]⟩
theorem c_StartB {w : World} {A : Option Addr} {c : Nat} {l : List Int} (h : Sl w A c l) {i : Nat} (hb : begins l i = true) : Calls Try.prog 24 #[.slice A l.length c, .int .i64 (i : Int)] w fun e w' => e = .returned (.int .i64 (start l i : Int)) ∧ Below w.heap.size w w' := by
  obtain ⟨k, e⟩ := (Start_ev h.ok (i : Int)).rounds
  rw [place_self hb] at e
  exact move_Start.calls k A c l i _ w h.reads h.cap e
theorem c_StartP {w : World} {A : Option Addr} {c : Nat} {l : List Int} (h : Sl w A c l) (i : Int) : Calls Try.prog 24 #[.slice A l.length c, .int .i64 i] w fun e w' => e = .returned (.int .i64 (start l (place l i) : Int)) ∧ Below w.heap.size w w' := by
  obtain ⟨k, e⟩ := (Start_ev h.ok i).rounds
  exact move_Start.calls k A c l i _ w h.reads h.cap e
theorem goV_plain (i : Nat) : goV (some (plain_ i)) = .tuple #[.agg #[.int .i64 (i : Int), .bool false, .bool false], .bool true] := rfl
theorem goV_incl (i : Nat) : goV (some (incl i)) = .tuple #[.agg #[.int .i64 (i : Int), .bool true, .bool false], .bool true] := rfl
theorem goV_byLn (i : Nat) : goV (some (byLn i)) = .tuple #[.agg #[.int .i64 (i : Int), .bool false, .bool true], .bool true] := rfl
theorem goV_none : goV none = .tuple #[.agg #[.int .i64 0, .bool false, .bool false], .bool false] := rfl
/-- A row's slice of bytes. -/
theorem row_sl {w : World} {a0 : Option Addr} {len0 cap0 : Nat} {z0 : List Int} (w0 : (a0 = none ∧ len0 = 0 ∧ cap0 = 0 ∧ z0 = []) ∨ ∃ x, a0 = some x ∧ len0 ≤ cap0 ∧ cap0 ≤ maxLen ∧ z0.length = cap0 ∧ (∀ i, i < z0.length → w.cell? (x.add i) = some (.int .u8 (z0.getD i 0))) ∧ ∀ n ∈ z0, (Lit.int .u8 n).wf = true) (y0 : len0 * 1 ≤ 140737488351232) : ∃ l, len0 = l.length ∧ Sl w a0 cap0 l := by
  obtain ⟨l0, rfl, hr0, hm0, hw0, hc0⟩ := ReadsInt.ofRowC w0
  exact ⟨l0, rfl, ⟨Kd.C_of_reads (d := (0 : Int)) (h1 := fun _ => rfl) hr0, hc0, ok_of y0 hw0⟩⟩
theorem toList1 (x : UInt8) : (⟨#[x]⟩ : ByteArray).toList = [x] := by rw [Lib.toList_data]
theorem toList2 (x y : UInt8) : (⟨#[x, y]⟩ : ByteArray).toList = [x, y] := by rw [Lib.toList_data]
/-- move.Go from a place where a letter begins. -/
theorem c_go {w : World} {A : Option Addr} {c : Nat} {l : List Int} {A2 : Option Addr} {c2 : Nat} {a : List Int} (h : Sl w A c l) (ha : Sl w A2 c2 a) {i : Nat} (hb : begins l i = true) {k : ByteArray} {key : List UInt8} (hk : k.toList = key) {cn : Int} (h1 : -9223372036854775808 ≤ cn) (h2 : cn ≤ 9223372036854775807) (op : Bool) (o : Option Gl) (hm : motion l i key a cn op = o) :
    Calls Try.prog 13 #[.slice A l.length c, .int .i64 (i : Int), .agg #[.string k, .slice A2 a.length c2, .int .i64 cn], .bool op] w fun e w' => e = .returned (goV o) ∧ Below w.heap.size w w' := by
  refine Go_calls h ha (i : Int) h1 h2 o ?_
  rw [place_self hb, hk]
  exact hm
theorem c_go2 {w : World} {A : Option Addr} {c : Nat} {l : List Int} {A2 : Option Addr} {c2 : Nat} {a : List Int} (h : Sl w A c l) (ha : Sl w A2 c2 a) {n2 : Nat} (hn : a.length = n2) {i : Nat} (hb : begins l i = true) {k : ByteArray} {key : List UInt8} (hk : k.toList = key) {cn : Int} (h1 : -9223372036854775808 ≤ cn) (h2 : cn ≤ 9223372036854775807) (op : Bool) (o : Option Gl) (hm : motion l i key a cn op = o) :
    Calls Try.prog 13 #[.slice A l.length c, .int .i64 (i : Int), .agg #[.string k, .slice A2 n2 c2, .int .i64 cn], .bool op] w fun e w' => e = .returned (goV o) ∧ Below w.heap.size w w' := by
  subst hn
  exact c_go h ha hb hk h1 h2 op o hm
theorem c_Class (w : World) (r : Int) : Calls Try.prog 22 #[.int .i64 r] w fun e w' => e = .returned (.int .i64 (cls r)) ∧ Below w.heap.size w w' := by
  obtain ⟨k, e⟩ := (class_ev r).rounds
  exact (utf_Class.calls k r _ w e).mono fun e w' h => ⟨h.1, h.2.below⟩
end Go.Proofs.Ytiibjehnlphabaa

end

section
namespace Go.Proofs.Ytiibjehnlphabaa
set_option linter.unusedVariables false
set_option linter.unusedSimpArgs false
/-- A letter that lies wholly in a cut is the same letter there. -/
theorem sev_cut {l : List Int} {s x j : Nat} (hj : s + j < x) (hx : x ≤ l.length) (hin : s + j + sev l (s + j) ≤ x) : sev ((l.take x).drop s) j = sev l (s + j) := by
  have hd : ((l.take x).drop s).drop j = (l.drop (s + j)).take (x - (s + j)) := by rw [List.drop_drop, List.drop_take]
  have hc1 := sev_cast ((l.take x).drop s) j
  have hc2 := sev_cast l (s + j)
  have h1 := sev_len ((l.take x).drop s) j
  have h2 := sev_len l (s + j)
  have hlen : ((l.take x).drop s).length = x - s := by rw [List.length_drop, List.length_take]; omega
  rw [hlen] at h1
  rw [hd] at hc1
  have key : ∀ k : Nat, 2 ≤ k → k ≤ 4 → k ≤ x - (s + j) → ((sevOf ((l.drop (s + j)).take (x - (s + j)))).2 = (k : Int) ↔ (sevOf (l.drop (s + j))).2 = (k : Int)) := by
    intro k a b c
    have e1 := sevOf_take (xs := (l.drop (s + j)).take (x - (s + j))) a b (by rw [List.length_take, List.length_drop]; omega)
    have e2 := sevOf_take (xs := l.drop (s + j)) a b (by rw [List.length_drop]; omega)
    rw [List.take_take, Nat.min_eq_left c] at e1
    exact e1.symm.trans e2
  rcases h1 with h1 | h1
  · rcases h2 with h2 | h2
    · omega
    · have := (key (sev l (s + j)) (by omega) (by omega) (by omega)).2 hc2.symm
      omega
  · have := (key (sev ((l.take x).drop s) j) (by omega) (by omega) (by omega)).1 hc1.symm
    omega
theorem on_cut {l : List Int} {s x j : Nat} (hb : begins l x = true) (hj : s + j < x) : s + on ((l.take x).drop s) j = on l (s + j) := by
  obtain ⟨hx, h⟩ := (begins_all l x).1 hb
  have hs := sev_cut hj hx (h _ hj)
  have hlen : ((l.take x).drop s).length = x - s := by rw [List.length_drop, List.length_take]; omega
  unfold on
  rw [sz_eq (by omega), sz_eq (by omega), hs]
  omega
/-- How many letters up to a place. -/
def upto (l : List Int) (x : Nat) : Nat → Nat → Nat
  | 0, _ => 0
  | f + 1, i => if i < x then upto l x f (on l i) + 1 else 0
theorem upto_more {l : List Int} {x : Nat} (hx : x ≤ l.length) : ∀ (f f' i : Nat), x - i ≤ f → x - i ≤ f' → upto l x f i = upto l x f' i
  | 0, 0, _, _, _ => rfl
  | 0, f' + 1, i, h, _ => by
    simp only [upto]
    rw [if_neg (by omega)]
  | f + 1, 0, i, _, h => by
    simp only [upto]
    rw [if_neg (by omega)]
  | f + 1, f' + 1, i, h, h' => by
    simp only [upto]
    by_cases hi : i < x
    · have := on_gt (show i < l.length by omega)
      rw [if_pos hi, if_pos hi, upto_more hx f f' _ (by omega) (by omega)]
    · rw [if_neg hi, if_neg hi]
theorem cnt_cut {l : List Int} {s x : Nat} (hb : begins l x = true) : ∀ (f j : Nat), cnt ((l.take x).drop s) f j = upto l x f (s + j)
  | 0, _ => rfl
  | f + 1, j => by
    have hx := begins_le hb
    have hlen : ((l.take x).drop s).length = x - s := by rw [List.length_drop, List.length_take]; omega
    simp only [cnt, upto, hlen]
    by_cases hj : s + j < x
    · rw [if_pos (by omega), if_pos hj, cnt_cut hb f, on_cut hb hj]
    · rw [if_neg (by omega), if_neg hj]
theorem column_upto {l : List Int} {x : Nat} (hb : begins l x = true) : column l x = upto l x (x - start l x) (start l x) := by
  have hx := begins_le hb
  unfold column count
  rw [cnt_cut hb, List.length_drop, List.length_take, Nat.add_zero, Nat.min_eq_left hx]
theorem upto_on {l : List Int} {i : Nat} (hb : begins l i = true) (hi : i < l.length) : ∀ (f j : Nat), i - j < f → begins l j = true → j ≤ i → upto l (on l i) f j = upto l i f j + 1
  | 0, j, h, _, _ => by omega
  | f + 1, j, h, hj, hji => by
    have hg := on_gt hi
    simp only [upto]
    rw [if_pos (by omega)]
    by_cases he : j < i
    · have ho := on_before hb he
      have hgj := on_gt (show j < l.length by omega)
      rw [if_pos he, upto_on hb hi f (on l j) (by omega) (begins_on hj (by omega)) ho]
    · obtain rfl : j = i := by omega
      rw [if_neg he]
      cases f with
      | zero => rfl
      | succ f => simp only [upto]; rw [if_neg (by omega)]
theorem column_on {l : List Int} {i : Nat} (hb : begins l i = true) (hi : i < fin l i) : column l (on l i) = column l i + 1 := by
  have hil := begins_le hb
  have hf := fin_le hil
  have hs := start_le l i
  have hlt : i < l.length := by omega
  have hg := on_gt hlt
  have ho := on_before (fin_begins' hil) hi
  have hsl := (same_line (p := on l i) hil (by omega) ho).1
  rw [column_upto (begins_on hb hlt), column_upto hb, hsl]
  rw [upto_on hb hlt _ _ (by omega) (start_begins hil) hs]
  rw [upto_more hil (on l i - start l i) (i - start l i) _ (by omega) (by omega)]
where
  fin_begins' {i : Nat} (hi : i ≤ l.length) : begins l (fin l i) = true := by
    by_cases h : fin l i < l.length
    · exact begins_at h (by rw [fin_nl h]; omega)
    · have := (fin_le hi).2
      rw [show fin l i = l.length by omega]
      exact begins_len l
theorem along_begins {l : List Int} {q : Nat} (hq : begins l q = true) : ∀ (n i : Nat), begins l i = true → i ≤ q → begins l (along l q n i) = true ∧ i ≤ along l q n i ∧ along l q n i ≤ q
  | 0, i, h, hi => ⟨h, Nat.le_refl _, hi⟩
  | n + 1, i, h, hi => by
    have hql := begins_le hq
    simp only [along]
    split
    · rename_i hlt
      have := on_gt (show i < l.length by omega)
      have := along_begins hq n (on l i) (begins_on h (by omega)) (on_before hq hlt)
      exact ⟨this.1, by omega, this.2.2⟩
    · exact ⟨h, Nat.le_refl _, hi⟩
theorem lefts_add (l : List Int) (s : Nat) : ∀ (k m i : Nat), lefts l s (k + m) i = lefts l s m (lefts l s k i)
  | 0, m, i => by rw [Nat.zero_add]; rfl
  | k + 1, m, i => by
    rw [show k + 1 + m = (k + m) + 1 by omega]
    simp only [lefts]
    split
    · exact lefts_add l s k m _
    · rename_i h
      cases m with
      | zero => rfl
      | succ m => simp only [lefts]; rw [if_neg h]
/-- Letters on, and as many back. -/
theorem along_back {l : List Int} {q : Nat} (hq : begins l q = true) : ∀ (n i : Nat), begins l i = true → i ≤ q → q ≤ fin l i →
    ∃ k, k ≤ n ∧ column l (along l q n i) = column l i + k ∧ lefts l (start l i) k (along l q n i) = i ∧ (1 ≤ n → i < q → 1 ≤ k)
  | 0, i, h, hi, hf => ⟨0, Nat.le_refl _, rfl, rfl, fun h => by omega⟩
  | n + 1, i, h, hi, hf => by
    have hql := begins_le hq
    simp only [along]
    split
    · rename_i hlt
      have hil : i < l.length := by omega
      have hg := on_gt hil
      have hs := start_le l i
      have ho := on_before hq hlt
      have hsl := same_line (p := on l i) (by omega : i ≤ l.length) (by omega) (by omega)
      obtain ⟨k, h1, h2, h3, h4⟩ := along_back hq n (on l i) (begins_on h hil) ho (by omega)
      refine ⟨k + 1, by omega, by rw [h2, column_on h (by omega)]; omega, ?_, fun _ _ => by omega⟩
      rw [hsl.1] at h3
      rw [lefts_add, h3]
      simp only [lefts]
      rw [if_pos (by omega), on_inv h hil]
    · exact ⟨0, by omega, rfl, rfl, fun _ h => by omega⟩
end Go.Proofs.Ytiibjehnlphabaa

end

section
namespace Go.Proofs.Ytiibjehnlphabaa
set_option linter.unusedVariables false
set_option linter.unusedSimpArgs false
section
variable (l : List Int) (i : Nat) (a : List Int) (c : Int) (op : Bool)
theorem motion_h : motion l i [104] a c op = if start l i < i then some (plain_ (lefts l (start l i) (times c) i)) else none := by simp (decide := true) only [motion, reduceIte]
theorem motion_l : motion l i [108] a c op = if i < (if op then fin l i else rest l (fin l i)) then some (plain_ (along l (if op then fin l i else rest l (fin l i)) (times c) i)) else none := by simp (decide := true) only [motion, reduceIte]
theorem motion_j : motion l i [106] a c op = (below l (times c) i).map fun p => byLn (rest l (colAt l p (column l i))) := by simp (decide := true) only [motion, reduceIte]
theorem motion_k : motion l i [107] a c op = (above l (times c) i).map fun p => byLn (rest l (colAt l p (column l i))) := by simp (decide := true) only [motion, reduceIte]
theorem motion_0 : motion l i [48] a c op = some (plain_ (start l i)) := by simp (decide := true) only [motion, reduceIte]
theorem motion_caret : motion l i [94] a c op = some (plain_ (first l i)) := by simp (decide := true) only [motion, reduceIte]
theorem motion_bar : motion l i [124] a c op = some (plain_ (rest l (colAt l i (times c - 1)))) := by simp (decide := true) only [motion, reduceIte]
theorem motion_dollar : motion l i [36] a c op = (below l (times c - 1) i).map fun p => incl (rest l (fin l p)) := by simp (decide := true) only [motion, reduceIte]
theorem motion_w : motion l i [119] a c op = if i < l.length then (if op then some (plain_ (wordsN l op (times c) i)) else if rest l (wordsN l op (times c) i) = i then none else some (plain_ (rest l (wordsN l op (times c) i)))) else none := by simp (decide := true) only [motion, reduceIte]
theorem motion_e : motion l i [101] a c op = (endsN l (times c) i).map incl := by simp (decide := true) only [motion, reduceIte]
theorem motion_b : motion l i [98] a c op = if 0 < i then some (plain_ (backsN l (times c) i)) else none := by simp (decide := true) only [motion, reduceIte]
theorem motion_G : motion l i [71] a c op = some (byLn (first l (if c < 1 then l.length else lineN l (c.toNat - 1) 0))) := by simp (decide := true) only [motion, reduceIte]
theorem motion_gg : motion l i [103, 103] a c op = some (byLn (first l (lineN l (c.toNat - 1) 0))) := by simp (decide := true) only [motion, reduceIte]
theorem motion_f : motion l i [102] a c op = (ahead l a (times c) i).map incl := by simp (decide := true) only [motion, reduceIte]
theorem motion_t : motion l i [116] a c op = (ahead l a (times c) i).map fun p => incl (p - lastSz l p) := by simp (decide := true) only [motion, reduceIte]
theorem motion_F : motion l i [70] a c op = (behind l a (times c) i).map plain_ := by simp (decide := true) only [motion, reduceIte]
theorem motion_T : motion l i [84] a c op = (behind l a (times c) i).map fun p => plain_ (on l p) := by simp (decide := true) only [motion, reduceIte]
theorem motion_down : motion l i [125] a c op = if (if op then paraN l (times c) i else rest l (paraN l (times c) i)) = i then none else some (plain_ (if op then paraN l (times c) i else rest l (paraN l (times c) i))) := by simp (decide := true) only [motion, reduceIte]
theorem motion_up : motion l i [123] a c op = if paraBackN l (times c) i = i then none else some (plain_ (paraBackN l (times c) i)) := by simp (decide := true) only [motion, reduceIte]
theorem motion_pair : motion l i [37] a c op = (pair l i).map incl := by simp (decide := true) only [motion, reduceIte]
end
theorem times_pos (c : Int) : 1 ≤ times c := by unfold times; omega
theorem times_nat {n : Nat} (h : 1 ≤ n) : times (n : Int) = n := by unfold times; omega
theorem times_zero : times 0 = 1 := rfl

theorem fin_self {l : List Int} {p : Nat} (hp : p ≤ l.length) (h : ¬ p < fin l p) : p = l.length ∨ l.getD p 0 = 10 := by
  have h1 := fin_le hp
  have e : fin l p = p := by omega
  rcases Nat.lt_or_ge p l.length with hlt | hge
  · have := fin_nl (l := l) (i := p) (by omega)
    rw [e] at this
    exact .inr this
  · exact .inl (by omega)
theorem rest_self {l : List Int} {p : Nat} (h : p < fin l p) : rest l p = p := by
  unfold rest
  rw [if_neg (by omega)]
theorem rest_start {l : List Int} {p : Nat} (h : start l p = p) : rest l p = p := by
  unfold rest
  rw [if_neg (by omega)]
/-- A letter that is no byte 10 is ahead of its line's end. -/
theorem lt_fin {l : List Int} {p : Nat} (hp : p < l.length) (h : l.getD p 0 ≠ 10) : p < fin l p := by
  rcases Nat.lt_or_ge p (fin l p) with hlt | hge
  · exact hlt
  · rcases fin_self (Nat.le_of_lt hp) (by omega) with h1 | h1
    · omega
    · exact absurd h1 h
theorem rest_rests {l : List Int} {i : Nat} (hb : begins l i = true) : begins l (rest l i) = true ∧ rest l (rest l i) = rest l i := by
  obtain ⟨h1, h2, h3, h4⟩ := rest_spec hb
  refine ⟨h1, ?_⟩
  have hi := begins_le hb
  have hs := same_line hi h2 (by have := fin_le hi; omega)
  rcases h4 with h4 | h4
  · rw [h4, h4]
  · rcases Nat.lt_or_ge (rest l i) i with hlt | hge
    · exact rest_self (by have := (fin_le hi).1; omega)
    · have e : rest l i = i := by omega
      rw [e, e]
theorem kls_nl {l : List Int} {p : Nat} (hp : p < l.length) (h : l.getD p 0 = 10) : kls l p = 0 := by
  have hs : sev l p = 0 := by
    rcases Nat.eq_zero_or_pos (sev l p) with h0 | h0
    · exact h0
    · have := (sev_cont h0).1
      omega
  unfold kls rn
  rw [if_pos hp, if_neg (by omega), if_pos (by omega), h]
  rfl
theorem kls_ne {l : List Int} {p : Nat} (hp : p < l.length) (h : kls l p ≠ 0) : p < fin l p := lt_fin hp (fun h10 => h (kls_nl hp h10))
theorem first_spec {l : List Int} {q : Nat} (hq : q ≤ l.length) : begins l (first l q) = true ∧ start l q ≤ first l q ∧ first l q ≤ fin l q := by
  have hs := start_le l q
  have hf := fin_le hq
  have hfb := fin_begins hq
  have hw := whileOn_ind (p := fun j => decide (j < fin l q) && decide (kls l j = 0)) (l := l) (fun j => begins l j = true ∧ start l q ≤ j ∧ j ≤ fin l q)
    (fun j ⟨h1, h2, h3⟩ hj hp => by
      simp only [Bool.and_eq_true, decide_eq_true_eq] at hp
      have := on_gt hj
      exact ⟨begins_on h1 hj, by omega, on_before hfb hp.1⟩) _ (start l q) (Nat.le_refl _) ⟨start_begins hq, Nat.le_refl _, by omega⟩
  unfold first
  simp only []
  split
  · exact hw
  · obtain ⟨r1, r2, r3, _⟩ := rest_spec hfb
    have := (same_line (p := fin l q) hq (by omega) (Nat.le_refl _)).1
    exact ⟨r1, by omega, r3⟩
theorem first_same {l : List Int} {p q : Nat} (h1 : start l p = start l q) (h2 : fin l p = fin l q) : first l p = first l q := by
  unfold first
  rw [h1, h2]
theorem first_first {l : List Int} {q : Nat} (hq : q ≤ l.length) : first l (first l q) = first l q := by
  obtain ⟨h1, h2, h3⟩ := first_spec hq
  have := same_line hq h2 h3
  exact first_same this.1 this.2
theorem first_rests {l : List Int} {q : Nat} (hq : q ≤ l.length) : rest l (first l q) = first l q := by
  obtain ⟨h1, h2, h3⟩ := first_spec hq
  have hs := same_line hq h2 h3
  by_cases h : first l q < fin l q
  · exact rest_self (by omega)
  · have hf := fin_le hq
    have hsl := start_le l q
    have hfs := same_line (p := fin l q) hq (by omega) (Nat.le_refl _)
    have e : first l q = rest l (fin l q) := by
      unfold first at h ⊢
      simp only [] at h ⊢
      split
      · rename_i h5; rw [if_pos h5] at h; omega
      · rfl
    rw [e]
    exact (rest_rests (fin_begins hq)).2
theorem colAt_spec {l : List Int} {p c : Nat} (hp : p ≤ l.length) : begins l (colAt l p c) = true ∧ start l p ≤ colAt l p c ∧ colAt l p c ≤ fin l p :=
  along_begins (fin_begins hp) c _ (start_begins hp) (by have := start_le l p; have := fin_le hp; omega)
theorem start_colAt {l : List Int} {p c : Nat} (hp : p ≤ l.length) : start l (rest l (colAt l p c)) = start l p := by
  obtain ⟨h1, h2, h3⟩ := colAt_spec (c := c) hp
  obtain ⟨r1, r2, r3, _⟩ := rest_spec h1
  have hs := same_line hp h2 h3
  exact (same_line hp (by omega) (by omega)).1
end Go.Proofs.Ytiibjehnlphabaa

end

section
namespace Go.Proofs.Ytiibjehnlphabaa
set_option linter.unusedVariables false
set_option linter.unusedSimpArgs false
theorem whileOn_begins {p : Nat → Bool} {l : List Int} {i : Nat} (hb : begins l i = true) : begins l (whileOn p l i) = true :=
  whileOn_ind (fun j => begins l j = true) (fun j h hl _ => begins_on h hl) _ i (Nat.le_refl _) hb
/-- All letters gone over are so. -/
theorem whileOn_all {p : Nat → Bool} {l : List Int} {i : Nat} (hb : begins l i = true) : ∀ j, begins l j = true → i ≤ j → j < whileOn p l i → p j = true := by
  have := whileOn_ind (p := p) (l := l) (fun x => begins l x = true ∧ i ≤ x ∧ ∀ j, begins l j = true → i ≤ j → j < x → p j = true)
    (fun x ⟨h1, h2, h3⟩ hx hp => by
      have hg := on_gt hx
      refine ⟨begins_on h1 hx, by omega, fun j hj hij hjx => ?_⟩
      rcases Nat.lt_trichotomy j x with h | h | h
      · exact h3 j hj hij h
      · rw [h]; exact hp
      · have := on_before hj h; omega) _ i (Nat.le_refl _) ⟨hb, Nat.le_refl _, fun j _ h1 h2 => by omega⟩
  exact this.2.2
/-- The letter ahead of a place. -/
theorem prev_ge {l : List Int} {m x : Nat} (hm : begins l m = true) (hx : begins l x = true) (h : m < x) : m ≤ x - lastSz l x ∧ x - lastSz l x < x ∧ begins l (x - lastSz l x) = true ∧ on l (x - lastSz l x) = x := by
  obtain ⟨h1, h2, h3, h4⟩ := last_inv hx (by omega)
  refine ⟨?_, by omega, h1, h2⟩
  rcases Nat.lt_or_ge (x - lastSz l x) m with hlt | hge
  · have := on_before hm hlt
    omega
  · exact hge
theorem backOn_blank {l : List Int} {s : Nat} (hs : begins l s = true) (hk : kls l s ≠ 0) : ∀ (n x : Nat), x ≤ n → begins l x = true → s ≤ x → (∀ j, begins l j = true → s < j → j ≤ x → kls l j = 0) → backOn (blankB l) l x = s
  | 0, x, hn, hx, hsx, ha => by
    obtain rfl : s = x := by omega
    rw [backOn_eq _ _ (begins_le hx), if_neg (by unfold blankB; simp [hk])]
  | n + 1, x, hn, hx, hsx, ha => by
    rcases Nat.eq_or_lt_of_le hsx with rfl | hlt
    · rw [backOn_eq _ _ (begins_le hx), if_neg (by unfold blankB; simp [hk])]
    · obtain ⟨h1, h2, h3, h4⟩ := prev_ge hs hx hlt
      rw [backOn_eq _ _ (begins_le hx), if_pos ⟨by omega, by unfold blankB; simp [ha x hx hlt (Nat.le_refl _)]⟩]
      exact backOn_blank hs hk n _ (by omega) h3 h1 (fun j hj h5 h6 => ha j hj h5 (by omega))
theorem backOn_same {l : List Int} {m : Nat} {c : Int} (hm : begins l m = true) : ∀ (n x : Nat), x ≤ n → begins l x = true → (∀ j, begins l j = true → m ≤ j → j < x → kls l j = c) → m ≤ x → backOn (sameB l c) l x ≤ m
  | 0, x, hn, hx, ha, hmx => by
    have := backOn_le (sameB l c) l _ x (Nat.le_refl _) (begins_le hx)
    omega
  | n + 1, x, hn, hx, ha, hmx => by
    rcases Nat.eq_or_lt_of_le hmx with rfl | hlt
    · have := backOn_le (sameB l c) l _ m (Nat.le_refl _) (begins_le hx)
      omega
    · obtain ⟨h1, h2, h3, h4⟩ := prev_ge hm hx hlt
      rw [backOn_eq _ _ (begins_le hx), if_pos ⟨by omega, by unfold sameB; simp [ha _ h3 h1 h2]⟩]
      exact backOn_same hm n _ (by omega) h3 (fun j hj h5 h6 => ha j hj h5 (by omega)) h1
theorem back_lt {l : List Int} {g : Nat} (hb : begins l g = true) (h0 : 0 < g) : back l g < g := by
  have hg := begins_le hb
  have hp := lastSz_pos h0 hg
  have h1 := backOn_le (blankB l) l _ (g - lastSz l g) (Nat.le_refl _) (by omega)
  have h2 : back0 l g < g := by unfold back0; omega
  rw [back_eq l hg]
  split
  · have := backOn_le (sameB l (kls l (back0 l g))) l _ (back0 l g) (Nat.le_refl _) (by omega)
    omega
  · exact h2
theorem word_false (l : List Int) (p : Nat) : word l p false = whileOn (fun j => decide (kls l j = 0)) l (word0 l p) := by
  rw [word_eq]
  congr 1
  funext j
  simp [wordP]
theorem word0_begins {l : List Int} {p : Nat} (hb : begins l p = true) : begins l (word0 l p) = true := by
  unfold word0
  split
  · exact whileOn_begins hb
  · exact hb
theorem word_gt {l : List Int} {p : Nat} (hb : begins l p = true) (hp : p < l.length) : p < word l p false ∧ word l p false ≤ l.length ∧ begins l (word l p false) = true ∧ ¬ (word l p false < l.length ∧ kls l (word l p false) = 0) := by
  have h0 := word0_le (Nat.le_of_lt hp)
  have hw := whileOn_le (p := fun j => decide (kls l j = 0)) (l := l) (i := word0 l p) h0.2
  have hs := whileOn_stop (p := fun j => decide (kls l j = 0)) (l := l) _ (word0 l p) (Nat.le_refl _)
  have hg := on_gt hp
  rw [word_false]
  refine ⟨?_, hw.2, whileOn_begins (word0_begins hb), by simpa using hs⟩
  by_cases hk : kls l p = 0
  · have e : word0 l p = p := by unfold word0; rw [if_neg (by simp [hk])]
    rw [e] at hw ⊢
    rw [whileOn_pos hp (by simp [hk])]
    have := whileOn_le (p := fun j => decide (kls l j = 0)) (l := l) (i := on l p) hg.2.1
    omega
  · have e : word0 l p = run l p (kls l p) := by unfold word0; rw [if_pos hk]
    have := run_own hp
    rw [e] at hw ⊢
    omega
theorem word_rest {l : List Int} {p : Nat} (hb : begins l p = true) (hp : p < l.length) : p ≤ rest l (word l p false) := by
  obtain ⟨h1, h2, h3, h4⟩ := word_gt hb hp
  obtain ⟨r1, r2, r3, r4⟩ := rest_spec h3
  rcases r4 with r4 | r4
  · omega
  · rcases Nat.lt_or_ge (rest l (word l p false)) p with hlt | hge
    · have := on_before hb hlt
      omega
    · exact hge
theorem word_back {l : List Int} {p : Nat} (hb : begins l p = true) (hp : p < l.length) (hk : kls l p ≠ 0) (hg : p < rest l (word l p false)) (hkg : kls l (rest l (word l p false)) ≠ 0) : back l (rest l (word l p false)) ≤ p := by
  obtain ⟨h1, h2, h3, h4⟩ := word_gt hb hp
  have e0 : word0 l p = run l p (kls l p) := by unfold word0; rw [if_pos hk]
  have hall0 : ∀ j, begins l j = true → p ≤ j → j < word0 l p → kls l j = kls l p := fun j a b c => by
    rw [e0] at c
    simpa using whileOn_all (p := fun j => decide (kls l j = kls l p)) hb j a b c
  have hr := run_own hp
  rw [← e0] at hr
  have hon := on_gt hp
  have hrb := word0_begins hb
  have hall1 : ∀ j, begins l j = true → word0 l p ≤ j → j < word l p false → kls l j = 0 := fun j a b c => by
    rw [word_false] at c
    simpa using whileOn_all (p := fun j => decide (kls l j = 0)) hrb j a b c
  have hrq : word0 l p ≤ word l p false := by rw [word_false]; exact (whileOn_le hr.2).1
  obtain ⟨s1, s2, s3, s4⟩ := prev_ge hb hrb (by omega)
  generalize word0 l p = r at *
  by_cases hq : rest l (word l p false) = word l p false
  · rw [hq] at hg hkg ⊢
    generalize word l p false = q at *
    obtain ⟨t1, t2, t3, t4⟩ := prev_ge s3 h3 (by omega)
    have hks : kls l (r - lastSz l r) = kls l p := hall0 _ s3 s1 s2
    have hb0 : back0 l q = r - lastSz l r := by
      unfold back0
      refine backOn_blank s3 (by rw [hks]; exact hk) _ _ (Nat.le_refl _) t3 t1 (fun j hj h5 h6 => hall1 j hj ?_ (by omega))
      have := on_before hj h5
      omega
    rw [back_eq l h2, hb0, if_pos (by rw [hks]; exact hk), hks]
    exact backOn_same hb _ _ (Nat.le_refl _) s3 (fun j hj h5 h6 => hall0 j hj h5 (by omega)) s1
  · have hu : rest l (word l p false) = word l p false - lastSz l (word l p false) ∧ word l p false = fin l (word l p false) := by
      unfold rest at hq ⊢
      split at hq
      · rename_i hh; rw [if_pos hh]; exact ⟨rfl, hh.1⟩
      · exact absurd rfl hq
    have hlen : word l p false = l.length := by
      rcases Nat.lt_or_ge (word l p false) l.length with hlt | hge
      · exfalso
        have h10 := fin_nl (l := l) (i := word l p false) (by omega)
        rw [← hu.2] at h10
        exact h4 ⟨hlt, kls_nl hlt h10⟩
      · omega
    rw [hu.1] at hg hkg ⊢
    generalize word l p false = q at *
    obtain ⟨t1, t2, t3, t4⟩ := prev_ge hb h3 h1
    have hgr : q - lastSz l q < r := by
      rcases Nat.lt_or_ge (q - lastSz l q) r with hlt | hge
      · exact hlt
      · exact absurd (hall1 _ t3 hge t2) hkg
    obtain ⟨v1, v2, v3, v4⟩ := prev_ge hb t3 hg
    have hky : kls l (q - lastSz l q - lastSz l (q - lastSz l q)) = kls l p := hall0 _ v3 v1 (by omega)
    have hb0 : back0 l (q - lastSz l q) = q - lastSz l q - lastSz l (q - lastSz l q) := by
      unfold back0
      exact backOn_blank v3 (by rw [hky]; exact hk) _ _ (Nat.le_refl _) v3 (Nat.le_refl _) (fun j hj h5 h6 => by omega)
    rw [back_eq l (by omega), hb0, if_pos (by rw [hky]; exact hk), hky]
    exact backOn_same hb _ _ (Nat.le_refl _) v3 (fun j hj h5 h6 => hall0 j hj h5 (by omega)) v1
theorem backsN_one {l : List Int} {g : Nat} (h : 0 < g) : backsN l 1 g = back l g := by
  simp only [backsN]
  rw [if_pos h]
theorem wordsN_one {l : List Int} {p : Nat} (h : p < l.length) : wordsN l false 1 p = word l p false := by
  simp only [wordsN]
  rw [if_pos h]
  simp
/-- One word on: nowhere, or farther, to a place where a cursor rests; back one comes no farther back than one was. -/
theorem words_step {l : List Int} {p : Nat} (hb : begins l p = true) :
    motion l p [119] [] 0 false = none ∨ ∃ g, motion l p [119] [] 0 false = some (plain_ g) ∧ p < g ∧ g ≤ l.length ∧ begins l g = true ∧ motion l g [98] [] 0 false = some (plain_ (back l g)) ∧ back l g < g ∧ (kls l g ≠ 0 → kls l p ≠ 0 → back l g ≤ p) := by
  simp only [motion_w, motion_b, times_zero]
  by_cases hp : p < l.length
  · simp only [if_pos hp, wordsN_one hp, Bool.false_eq_true, if_false]
    by_cases hr : rest l (word l p false) = p
    · rw [if_pos hr]; exact .inl rfl
    · rw [if_neg hr]
      obtain ⟨h1, h2, h3, h4⟩ := word_gt hb hp
      have h5 := word_rest hb hp
      obtain ⟨r1, r2, r3, r4⟩ := rest_spec h3
      refine .inr ⟨_, rfl, by omega, by omega, r1, ?_, back_lt r1 (by omega), fun a b => word_back hb hp b (by omega) a⟩
      rw [if_pos (by omega), backsN_one (by omega)]
  · rw [if_neg hp]; exact .inl rfl
end Go.Proofs.Ytiibjehnlphabaa

end

section
namespace Go.Proofs.Ytiibjehnlphabaa
set_option linter.unusedVariables false
set_option linter.unusedSimpArgs false
theorem back_l {l : List Int} {a n : Nat} (hb : begins l a = true) (h1 : 1 ≤ n) :
    motion l a [108] [] n false = none ∨ ∃ g k, motion l a [108] [] n false = some (plain_ g) ∧ begins l g = true ∧ column l g = column l a + k ∧ 1 ≤ k ∧ k ≤ n ∧ motion l g [104] [] k false = some (plain_ a) := by
  simp only [motion_l, motion_h, times_nat h1, Bool.false_eq_true, if_false]
  have hal := begins_le hb
  have hf := fin_le hal
  have hs := start_le l a
  by_cases hlt : a < rest l (fin l a)
  · right
    rw [if_pos hlt]
    obtain ⟨r1, r2, r3, r4⟩ := rest_spec (fin_begins hal)
    obtain ⟨k, k1, k2, k3, k4⟩ := along_back r1 n a hb (by omega) (by omega)
    obtain ⟨b1, b2, b3⟩ := along_begins r1 n a hb (by omega)
    have hk := k4 h1 hlt
    refine ⟨_, k, rfl, b1, k2, hk, k1, ?_⟩
    have hsl := same_line (p := along l (rest l (fin l a)) n a) hal (by omega) (by omega)
    have hne : a < along l (rest l (fin l a)) n a := by
      rcases Nat.eq_or_lt_of_le b2 with h | h
      · rw [← h] at k2; omega
      · exact h
    rw [times_nat hk, if_pos (by omega), hsl.1, k3]
  · rw [if_neg hlt]; exact .inl rfl
theorem start_begins' {l : List Int} {s : Nat} (h : isStart l s) : begins l s = true := by
  have := start_begins (l := l) (i := s) h.1
  rwa [isStart_self h] at this
theorem back_j {l : List Int} {a n : Nat} (hb : begins l a = true) (h1 : 1 ≤ n) :
    motion l a [106] [] n false = none ∨ ∃ g h, motion l a [106] [] n false = some (byLn g) ∧ begins l g = true ∧ motion l g [107] [] n false = some (byLn h) ∧ begins l h = true ∧ start l h = start l a := by
  simp only [motion_j, motion_k]
  have hal := begins_le hb
  rw [times_nat h1]
  cases hB : below l n a with
  | none => exact .inl rfl
  | some p =>
    right
    obtain ⟨p1, p2, p3⟩ := below_some hal hB
    have hcs := colAt_spec (c := column l a) p3
    have hg := rest_rests hcs.1
    have hgs : start l (rest l (colAt l p (column l a))) = p := by rw [start_colAt p3, isStart_self p1]
    have hgl := begins_le hg.1
    have hnl : nl l (rest l (colAt l p (column l a))) = nl l a + n := by rw [← nl_start, hgs, p2]
    have hA := (aboveN_is (l := l) (m := n) p1).2 (by omega)
    obtain ⟨s, hs⟩ := Option.isSome_iff_exists.1 hA
    have hA' : above l n (rest l (colAt l p (column l a))) = some s := by unfold above; rw [hgs]; exact hs
    obtain ⟨s1, s2⟩ := aboveN_some p1 hs
    have hse : s = start l a := isStart_eq s1 (isStart_start hal) (by rw [nl_start]; omega)
    have hcs2 := colAt_spec (l := l) (p := s) (c := column l (rest l (colAt l p (column l a)))) s1.1
    refine ⟨_, rest l (colAt l s (column l (rest l (colAt l p (column l a))))), rfl, hg.1, by rw [hA']; rfl, (rest_rests hcs2.1).1, ?_⟩
    rw [start_colAt s1.1, isStart_self s1, hse]

theorem deepTo_of {l : List Int} {o c : Int} (hoc : o ≠ c) : ∀ (n i : Nat) (d : Int) (g : Nat), l.length - i ≤ n → 1 ≤ d → deepFrom l o c d i = some g → i ≤ g ∧ g < l.length ∧ l.getD g 0 = c ∧ deepTo l o c (g + 1) 0 = deepTo l o c i d := by
  intro n
  induction n with
  | zero =>
    intro i d g hn hd h
    rw [deepFrom_end l o c d (by omega)] at h
    cases h
  | succ n ih =>
    intro i d g hn hd h
    by_cases hi : i < l.length
    · rw [deepFrom_eq l o c d hi] at h
      split at h
      · rename_i h0
        cases h
        have hx : l.getD i 0 = c ∧ d = 1 := by
          unfold stepF at h0
          split at h0
          · omega
          · split at h0
            · rename_i hc; exact ⟨hc, by omega⟩
            · omega
        refine ⟨Nat.le_refl _, hi, hx.1, ?_⟩
        simp only [deepTo]
        have : stepB (l.getD i 0) o c 0 = 1 := by
          unfold stepB
          rw [if_neg (by rw [hx.1]; exact Ne.symm hoc), if_pos hx.1]
          rfl
        rw [this, if_neg (by decide), hx.2]
      · rename_i h0
        have hd1 : 1 ≤ stepF (l.getD i 0) o c d := by
          unfold stepF at h0 ⊢
          split
          · omega
          · split
            · rename_i h1 h2; rw [if_neg h1, if_pos h2] at h0; omega
            · omega
        obtain ⟨g1, g2, g3, g4⟩ := ih _ _ _ (by omega) hd1 h
        refine ⟨by omega, g2, g3, ?_⟩
        rw [g4]
        simp only [deepTo]
        have : stepB (l.getD i 0) o c (stepF (l.getD i 0) o c d) = d := by
          unfold stepB stepF
          by_cases h1 : l.getD i 0 = o
          · rw [if_pos h1, if_pos h1]; omega
          · rw [if_neg h1, if_neg h1]
            by_cases h2 : l.getD i 0 = c
            · rw [if_pos h2, if_pos h2]; omega
            · rw [if_neg h2, if_neg h2]
        rw [this, if_neg (by omega)]
    · rw [deepFrom_end l o c d hi] at h
      cases h
theorem deepFrom_of {l : List Int} {o c : Int} (hoc : o ≠ c) : ∀ (i : Nat) (d : Int) (g : Nat), i ≤ l.length → 1 ≤ d → deepTo l o c i d = some g → g < i ∧ l.getD g 0 = o ∧ deepFrom l o c 0 g = deepFrom l o c d i
  | 0, d, g, hi, hd, h => by cases h
  | x + 1, d, g, hi, hd, h => by
    simp only [deepTo] at h
    split at h
    · rename_i h0
      cases h
      have hx : l.getD x 0 = o ∧ d = 1 := by
        unfold stepB at h0
        split at h0
        · rename_i hc; exact ⟨hc, by omega⟩
        · split at h0
          · omega
          · omega
      refine ⟨by omega, hx.1, ?_⟩
      rw [deepFrom_eq l o c 0 (by omega)]
      have : stepF (l.getD x 0) o c 0 = 1 := by
        unfold stepF
        rw [if_pos hx.1]
        rfl
      rw [this, if_neg (by decide), hx.2]
    · rename_i h0
      have hd1 : 1 ≤ stepB (l.getD x 0) o c d := by
        unfold stepB at h0 ⊢
        split
        · rename_i h1; rw [if_pos h1] at h0; omega
        · split
          · omega
          · omega
      obtain ⟨g1, g2, g3⟩ := deepFrom_of hoc x _ g (by omega) hd1 h
      refine ⟨by omega, g2, ?_⟩
      rw [g3, deepFrom_eq l o c _ (by omega)]
      have : stepF (l.getD x 0) o c (stepB (l.getD x 0) o c d) = d := by
        unfold stepB stepF
        by_cases h1 : l.getD x 0 = o
        · rw [if_pos h1, if_pos h1]; omega
        · rw [if_neg h1, if_neg h1]
          by_cases h2 : l.getD x 0 = c
          · rw [if_pos h2, if_pos h2]; omega
          · rw [if_neg h2, if_neg h2]
      rw [this, if_neg (by omega)]
theorem bracketIn_some : ∀ {m : List Int} {k : Nat}, bracketIn m = some k → k < m.length ∧ isBracket (m.getD k 0) = true
  | [], k, h => by cases h
  | c :: m, k, h => by
    simp only [bracketIn] at h
    split at h
    · rename_i hc
      cases h
      exact ⟨by simp, by simpa using hc⟩
    · cases hm : bracketIn m with
      | none => rw [hm] at h; cases h
      | some j =>
        rw [hm] at h
        cases h
        have := bracketIn_some hm
        exact ⟨by simp; omega, by simpa using this.2⟩
theorem getD_cut {l : List Int} {x a k : Nat} (h : a + k < x) : ((l.take x).drop a).getD k 0 = l.getD (a + k) 0 := by
  rw [List.getD_eq_getElem?_getD, List.getElem?_drop, List.getElem?_take, if_pos h, List.getD_eq_getElem?_getD]
theorem isBracket_ne {x : Int} (h : isBracket x = true) : x ≠ 10 ∧ x < 128 := by
  rcases six_cases h with rfl | rfl | rfl | rfl | rfl | rfl <;> decide
theorem bracket_here {l : List Int} {s : Nat} (hs : s < l.length) (h : isBracket (l.getD s 0) = true) : bracketIn ((l.take (fin l s)).drop s) = some 0 := by
  have hf := lt_fin hs (isBracket_ne h).1
  have hl := (fin_le (Nat.le_of_lt hs)).2
  have hlen : ((l.take (fin l s)).drop s).length = fin l s - s := by rw [List.length_drop, List.length_take]; omega
  have h0 := getD_cut (l := l) (x := fin l s) (a := s) (k := 0) (by omega)
  cases hm : (l.take (fin l s)).drop s with
  | nil => rw [hm] at hlen; simp at hlen; omega
  | cons c m =>
    rw [hm] at h0
    simp only [List.getD_cons_zero, Nat.add_zero] at h0
    simp only [bracketIn]
    rw [if_pos (by rw [h0]; exact h)]
/-- The brackets that close, and that open. -/
theorem pair_both {l : List Int} {s : Nat} {o c : Int} (hs : s < l.length) (hcase : (o = 40 ∧ c = 41) ∨ (o = 91 ∧ c = 93) ∨ (o = 123 ∧ c = 125)) :
    (l.getD s 0 = o → pair l s = deepFrom l o c 0 s) ∧ (l.getD s 0 = c → pair l s = deepTo l o c (s + 1) 0) := by
  constructor
  · intro h
    have hb := bracket_here hs (by rw [h]; rcases hcase with ⟨rfl, rfl⟩ | ⟨rfl, rfl⟩ | ⟨rfl, rfl⟩ <;> decide)
    have := pair_fwd (ch := o) hb h (by rcases hcase with ⟨rfl, rfl⟩ | ⟨rfl, rfl⟩ | ⟨rfl, rfl⟩ <;> decide)
    rw [Nat.add_zero] at this
    rw [this]
    rcases hcase with ⟨rfl, rfl⟩ | ⟨rfl, rfl⟩ | ⟨rfl, rfl⟩ <;> rfl
  · intro h
    have hb := bracket_here hs (by rw [h]; rcases hcase with ⟨rfl, rfl⟩ | ⟨rfl, rfl⟩ | ⟨rfl, rfl⟩ <;> decide)
    have := pair_bwd (ch := c) hb h (by rcases hcase with ⟨rfl, rfl⟩ | ⟨rfl, rfl⟩ | ⟨rfl, rfl⟩ <;> decide)
    rw [Nat.add_zero] at this
    rw [this]
    rcases hcase with ⟨rfl, rfl⟩ | ⟨rfl, rfl⟩ | ⟨rfl, rfl⟩ <;> rfl
theorem pair_here {l : List Int} {a k : Nat} (ha : a ≤ l.length) (h : bracketIn ((l.take (fin l a)).drop a) = some k) : a + k < fin l a ∧ isBracket (l.getD (a + k) 0) = true ∧ pair l a = pair l (a + k) := by
  have hf := fin_le ha
  have hlen : ((l.take (fin l a)).drop a).length = fin l a - a := by rw [List.length_drop, List.length_take]; omega
  obtain ⟨h1, h2⟩ := bracketIn_some h
  rw [hlen] at h1
  rw [getD_cut (by omega)] at h2
  refine ⟨by omega, h2, ?_⟩
  have hb := bracket_here (l := l) (s := a + k) (by omega) h2
  by_cases ho : 0 ≤ opens (l.getD (a + k) 0)
  · rw [pair_fwd h rfl ho, pair_fwd hb rfl ho]
    rfl
  · rw [pair_bwd h rfl ho, pair_bwd hb rfl ho]
    rfl
theorem back_pair {l : List Int} {a : Nat} (hb : begins l a = true) :
    motion l a [37] [] 0 false = none ∨ ∃ g h, motion l a [37] [] 0 false = some (incl g) ∧ begins l g = true ∧ rest l g = g ∧ motion l g [37] [] 0 false = some (incl h) ∧ a ≤ h ∧ begins l h = true ∧ start l h = start l a := by
  simp only [motion_pair]
  have hal := begins_le hb
  cases hB : bracketIn ((l.take (fin l a)).drop a) with
  | none => left; unfold pair; rw [hB]; rfl
  | some k =>
    obtain ⟨h1, h2, h3⟩ := pair_here hal hB
    have hf := fin_le hal
    have hst := (same_line (p := a + k) hal (by have := start_le l a; omega) (by omega)).1
    have hsb : begins l (a + k) = true := begins_at (by omega) (isBracket_ne h2).2
    generalize hs : a + k = s at *
    have hsl : s < l.length := by omega
    rw [h3]
    obtain ⟨o, c, hoc, hcase, hch⟩ : ∃ o c : Int, o ≠ c ∧ ((o = 40 ∧ c = 41) ∨ (o = 91 ∧ c = 93) ∨ (o = 123 ∧ c = 125)) ∧ (l.getD s 0 = o ∨ l.getD s 0 = c) := by
      rcases six_cases h2 with h | h | h | h | h | h
      · exact ⟨40, 41, by decide, .inl ⟨rfl, rfl⟩, .inl h⟩
      · exact ⟨91, 93, by decide, .inr (.inl ⟨rfl, rfl⟩), .inl h⟩
      · exact ⟨123, 125, by decide, .inr (.inr ⟨rfl, rfl⟩), .inl h⟩
      · exact ⟨40, 41, by decide, .inl ⟨rfl, rfl⟩, .inr h⟩
      · exact ⟨91, 93, by decide, .inr (.inl ⟨rfl, rfl⟩), .inr h⟩
      · exact ⟨123, 125, by decide, .inr (.inr ⟨rfl, rfl⟩), .inr h⟩
    have hco : c < 128 ∧ o < 128 ∧ c ≠ 10 ∧ o ≠ 10 := by rcases hcase with ⟨rfl, rfl⟩ | ⟨rfl, rfl⟩ | ⟨rfl, rfl⟩ <;> decide
    rcases hch with h | h
    · rw [(pair_both hsl hcase).1 h]
      have e0 : deepFrom l o c 0 s = deepFrom l o c 1 (s + 1) := by
        rw [deepFrom_eq l o c 0 hsl]
        have : stepF (l.getD s 0) o c 0 = 1 := by unfold stepF; rw [if_pos h]; rfl
        rw [this, if_neg (by decide)]
      rw [e0]
      cases hg : deepFrom l o c 1 (s + 1) with
      | none => exact .inl rfl
      | some g =>
        right
        obtain ⟨g1, g2, g3, g4⟩ := deepTo_of hoc _ _ _ _ (Nat.le_refl _) (by omega) hg
        refine ⟨g, s, rfl, begins_at g2 (by omega), rest_self (lt_fin g2 (by omega)), ?_, by omega, hsb, hst⟩
        rw [(pair_both g2 hcase).2 g3, g4]
        simp only [deepTo]
        have : stepB (l.getD s 0) o c 1 = 0 := by unfold stepB; rw [if_pos h]; rfl
        rw [this, if_pos rfl]
        rfl
    · rw [(pair_both hsl hcase).2 h]
      have e0 : deepTo l o c (s + 1) 0 = deepTo l o c s 1 := by
        simp only [deepTo]
        have : stepB (l.getD s 0) o c 0 = 1 := by unfold stepB; rw [if_neg (by rw [h]; exact Ne.symm hoc), if_pos h]; rfl
        rw [this, if_neg (by decide)]
      rw [e0]
      cases hg : deepTo l o c s 1 with
      | none => exact .inl rfl
      | some g =>
        right
        obtain ⟨g1, g2, g3⟩ := deepFrom_of hoc _ _ _ (by omega) (by omega) hg
        refine ⟨g, s, rfl, begins_at (by omega) (by omega), rest_self (lt_fin (by omega) (by omega)), ?_, by omega, hsb, hst⟩
        rw [(pair_both (by omega) hcase).1 g2, g3, deepFrom_eq l o c 1 hsl]
        have : stepF (l.getD s 0) o c 1 = 0 := by unfold stepF; rw [if_neg (by rw [h]; exact Ne.symm hoc), if_pos h]; rfl
        rw [this, if_pos rfl]
        rfl
end Go.Proofs.Ytiibjehnlphabaa

end

section
namespace Go.Proofs.Ytiibjehnlphabaa
set_option linter.unusedVariables false
set_option linter.unusedSimpArgs false
theorem ahead_back {l a : List Int} {tt s : Nat} (ht : tt ≤ l.length) : ∀ (n i m p : Nat), tt - i ≤ n → begins l i = true → 1 ≤ m → s ≤ i → aheadOn l a tt m i = some p →
    begins l p = true ∧ i < p ∧ p < tt ∧ isAt l a p = true ∧ ∀ r, 1 ≤ r → behindOn l a s (m - 1 + r) p = behindOn l a s r (on l i) := by
  intro n
  induction n with
  | zero =>
    intro i m p hn hb hm hs h
    rw [aheadOn_eq l a ht, if_neg (by omega)] at h
    cases h
  | succ n ih =>
    intro i m p hn hb hm hs h
    rw [aheadOn_eq l a ht] at h
    split at h
    · rename_i hi
      have hg := on_gt (show i < l.length by omega)
      have hbj := begins_on hb (show i < l.length by omega)
      split at h
      · rename_i hj
        split at h
        · rename_i hm1
          cases h
          refine ⟨hbj, hg.1, hj.1, hj.2, fun r hr => ?_⟩
          rw [show m - 1 + r = r by omega]
        · rename_i hm1
          obtain ⟨h1, h2, h3, h4, h5⟩ := ih (on l i) (m - 1) p (by omega) hbj (by omega) (by omega) h
          refine ⟨h1, by omega, h3, h4, fun r hr => ?_⟩
          have hgj := on_gt (show on l i < l.length by omega)
          have e := h5 (r + 1) (by omega)
          rw [show m - 1 - 1 + (r + 1) = m - 1 + r by omega] at e
          rw [e, behindOn_eq l a _ hgj.2.1, if_pos (by omega), on_inv hbj (by omega), if_pos hj.2, if_neg (by omega), Nat.add_sub_cancel]
      · rename_i hj
        have hjt : on l i < tt := by
          rcases Nat.lt_or_ge (on l i) tt with hlt | hge
          · exact hlt
          · rw [aheadOn_eq l a ht, if_neg (by omega)] at h
            cases h
        obtain ⟨h1, h2, h3, h4, h5⟩ := ih (on l i) m p (by omega) hbj hm (by omega) h
        refine ⟨h1, by omega, h3, h4, fun r hr => ?_⟩
        have hgj := on_gt (show on l i < l.length by omega)
        rw [h5 r hr, behindOn_eq l a _ hgj.2.1, if_pos (by omega), on_inv hbj (by omega), if_neg (fun hh => hj ⟨hjt, hh⟩)]
    · cases h
/-- To the letter at a place, so many times forth, and back. -/
theorem finds_step {l : List Int} {a k : Nat} (hb : begins l a = true) (ha : a < l.length) (hk : 1 ≤ k) :
    (motion l a [102] ((l.drop a).take (sz l a)) k false = none ∧ motion l a [116] ((l.drop a).take (sz l a)) k false = none) ∨
    ∃ g t, motion l a [102] ((l.drop a).take (sz l a)) k false = some (incl g) ∧ motion l a [116] ((l.drop a).take (sz l a)) k false = some (incl t) ∧ begins l g = true ∧ g < l.length ∧
      (l.drop g).take (sz l g) = (l.drop a).take (sz l a) ∧ begins l t = true ∧ t + sz l t = g ∧ start l g = start l a ∧ motion l g [70] ((l.drop a).take (sz l a)) k false = some (plain_ a) := by
  simp only [motion_f, motion_t, motion_F]
  rw [times_nat hk]
  generalize hA : (l.drop a).take (sz l a) = A
  have hf := fin_le (Nat.le_of_lt ha)
  have hs := start_le l a
  cases hh : ahead l A k a with
  | none => exact .inl ⟨rfl, rfl⟩
  | some p =>
    right
    rw [ahead_eq l A k (Nat.le_of_lt ha)] at hh
    split at hh
    · rename_i hone
      obtain ⟨h1, h2, h3, h4, h5⟩ := ahead_back (s := start l a) hf.2 _ a k p (Nat.le_refl _) hb hk hs hh
      obtain ⟨t1, t2, t3, t4⟩ := prev_ge hb h1 h2
      have hsl := (same_line (p := p) (Nat.le_of_lt ha) (by omega) (by omega)).1
      have hg := on_gt ha
      refine ⟨p, p - lastSz l p, rfl, rfl, h1, by omega, ?_, t3, t4, hsl, ?_⟩
      · unfold isAt at h4
        simpa using h4
      · have e := h5 1 (Nat.le_refl _)
        rw [show k - 1 + 1 = k by omega, behindOn_eq l A _ hg.2.1, if_pos (by omega), on_inv hb ha, if_pos (by unfold isAt; rw [decide_eq_true_eq]; exact hA), if_pos rfl] at e
        rw [behind_eq l A k (by omega), if_pos hone, hsl, e]
        rfl
    · cases hh
end Go.Proofs.Ytiibjehnlphabaa

end

section
namespace Go.Proofs.Ytiibjehnlphabaa
set_option linter.unusedVariables false
set_option linter.unusedSimpArgs false
theorem rest_in {l : List Int} {a q : Nat} (ha : a ≤ l.length) (h1 : start l a ≤ q) (h2 : q < fin l a) : rest l q = q :=
  rest_self (by have := same_line ha h1 (Nat.le_of_lt h2); omega)
theorem lefts_spec {l : List Int} {s : Nat} (hs : begins l s = true) : ∀ (n i : Nat), begins l i = true → s ≤ i → begins l (lefts l s n i) = true ∧ s ≤ lefts l s n i ∧ lefts l s n i ≤ i ∧ (1 ≤ n → s < i → lefts l s n i < i)
  | 0, i, hb, hi => ⟨hb, hi, Nat.le_refl _, fun h => by omega⟩
  | n + 1, i, hb, hi => by
    simp only [lefts]
    split
    · rename_i hlt
      obtain ⟨h1, h2, h3, h4⟩ := prev_ge hs hb hlt
      obtain ⟨r1, r2, r3, r4⟩ := lefts_spec hs n (i - lastSz l i) h3 h1
      exact ⟨r1, r2, by omega, fun _ _ => by omega⟩
    · exact ⟨hb, hi, Nat.le_refl _, fun _ h => by omega⟩
theorem wordP_begins {l : List Int} {i : Nat} {st : Bool} (hb : begins l i = true) : begins l (word l i st) = true := by
  rw [word_eq]
  exact whileOn_begins (word0_begins hb)
theorem wordsN_begins {l : List Int} {op : Bool} : ∀ {n i : Nat}, begins l i = true → begins l (wordsN l op n i) = true
  | 0, i, h => h
  | n + 1, i, h => by
    simp only [wordsN]
    split
    · exact wordsN_begins (wordP_begins h)
    · exact h
theorem endsN_spec {l : List Int} : ∀ {n i q : Nat}, begins l i = true → endsN l n i = some q → begins l q = true ∧ (1 ≤ n → q < l.length ∧ kls l q ≠ 0)
  | 0, i, q, hb, h => by
    simp only [endsN] at h
    cases h
    exact ⟨hb, fun h => by omega⟩
  | n + 1, i, q, hb, h => by
    simp only [endsN] at h
    split at h
    · rename_i hi
      split at h
      · rename_i hj
        have hjb : begins l (run l (on l i) 0) = true := whileOn_begins (begins_on hb hi)
        have hjs := whileOn_stop (p := fun j => decide (kls l j = 0)) (l := l) _ (on l i) (Nat.le_refl _)
        change ¬ (run l (on l i) 0 < l.length ∧ _) at hjs
        have hjk : kls l (run l (on l i) 0) ≠ 0 := fun h0 => hjs ⟨hj, by change decide (kls l (run l (on l i) 0) = 0) = true; rw [h0]; rfl⟩
        generalize run l (on l i) 0 = j at *
        have ht := run_own hj
        have htb : begins l (run l j (kls l j)) = true := whileOn_begins hjb
        have hg := on_gt hj
        obtain ⟨t1, t2, t3, t4⟩ := prev_ge hjb htb (by omega)
        have hk : kls l (run l j (kls l j) - lastSz l (run l j (kls l j))) = kls l j := by
          simpa using whileOn_all (p := fun x => decide (kls l x = kls l j)) hjb _ t3 t1 t2
        obtain ⟨r1, r2⟩ := endsN_spec t3 h
        refine ⟨r1, fun _ => ?_⟩
        cases n with
        | zero =>
          simp only [endsN] at h
          cases h
          exact ⟨by omega, by rw [hk]; exact hjk⟩
        | succ n => exact r2 (by omega)
      · cases h
    · cases h
theorem backOn_spec {p : Nat → Bool} {l : List Int} (Q : Nat → Prop) (hst : ∀ j, Q j → 0 < j → begins l j = true → p j = true → Q (j - lastSz l j)) : ∀ (n x : Nat), x ≤ n → begins l x = true → Q x → begins l (backOn p l x) = true ∧ Q (backOn p l x) ∧ ¬ (0 < backOn p l x ∧ p (backOn p l x) = true)
  | 0, x, hn, hx, hq => by
    rw [backOn_eq _ _ (begins_le hx), if_neg (by omega)]
    exact ⟨hx, hq, by omega⟩
  | n + 1, x, hn, hx, hq => by
    rw [backOn_eq _ _ (begins_le hx)]
    split
    · rename_i h
      obtain ⟨h1, h2, h3, h4⟩ := last_inv hx h.1
      exact backOn_spec Q hst n _ (by omega) h1 (hst x hq h.1 hx h.2)
    · rename_i h
      exact ⟨hx, hq, h⟩
theorem back_spec {l : List Int} {i : Nat} (hb : begins l i = true) (h0 : 0 < i) : begins l (back l i) = true ∧ (back l i = 0 ∨ kls l (back l i) ≠ 0) := by
  obtain ⟨h1, h2, h3, h4⟩ := last_inv hb h0
  have a := backOn_spec (p := blankB l) (l := l) (fun _ => True) (fun _ _ _ _ _ => trivial) _ (i - lastSz l i) (Nat.le_refl _) h1 trivial
  change begins l (back0 l i) = true ∧ True ∧ ¬ (0 < back0 l i ∧ blankB l (back0 l i) = true) at a
  rw [back_eq l (begins_le hb)]
  split
  · rename_i hk
    have c := backOn_spec (p := sameB l (kls l (back0 l i))) (l := l) (fun x => kls l x = kls l (back0 l i)) (fun j hj _ _ hp => by unfold sameB at hp; simpa using hp) _ (back0 l i) (Nat.le_refl _) a.1 rfl
    exact ⟨c.1, .inr (by rw [c.2.1]; exact hk)⟩
  · rename_i hk
    refine ⟨a.1, ?_⟩
    rcases Nat.eq_zero_or_pos (back0 l i) with h | h
    · exact .inl h
    · exact absurd ⟨h, by unfold blankB; simp only [decide_eq_true_eq]; simpa using hk⟩ a.2.2
theorem backsN_spec {l : List Int} : ∀ {n i : Nat}, begins l i = true → (i = 0 ∨ (kls l i ≠ 0 ∧ i < l.length) ∨ 1 ≤ n) → begins l (backsN l n i) = true ∧ (backsN l n i = 0 ∨ (kls l (backsN l n i) ≠ 0 ∧ backsN l n i < l.length))
  | 0, i, hb, h => ⟨hb, by simp only [backsN]; omega⟩
  | n + 1, i, hb, h => by
    simp only [backsN]
    split
    · rename_i h0
      have hs := back_spec hb h0
      have hl := back_lt hb h0
      have hi := begins_le hb
      exact backsN_spec hs.1 (by omega)
    · rename_i h0
      exact ⟨hb, .inl (by omega)⟩
theorem behind_spec {l a : List Int} {s : Nat} (hs : begins l s = true) : ∀ (n i m q : Nat), i ≤ n → begins l i = true → behindOn l a s m i = some q → begins l q = true ∧ s ≤ q ∧ q < i := by
  intro n
  induction n with
  | zero =>
    intro i m q hn hb h
    rw [behindOn_eq l a _ (begins_le hb), if_neg (by omega)] at h
    cases h
  | succ n ih =>
    intro i m q hn hb h
    rw [behindOn_eq l a _ (begins_le hb)] at h
    split at h
    · rename_i hi
      obtain ⟨h1, h2, h3, h4⟩ := prev_ge hs hb hi
      split at h
      · split at h
        · cases h
          exact ⟨h3, h1, h2⟩
        · have := ih _ _ _ (by omega) h3 h
          exact ⟨this.1, this.2.1, by omega⟩
      · have := ih _ _ _ (by omega) h3 h
        exact ⟨this.1, this.2.1, by omega⟩
    · cases h
theorem emptyDown_begins {l : List Int} : ∀ {f i : Nat}, begins l i = true → (i < l.length → l.getD i 0 = 10) → begins l (emptyDown l f i) = true
  | 0, i, hb, h => hb
  | f + 1, i, hb, h => by
    simp only [emptyDown]
    split
    · rename_i hi
      have h1 := begins_behind hi (by rw [h hi]; decide)
      split
      · exact h1
      · exact emptyDown_begins (fin_begins (by omega)) (fun hlt => fin_nl hlt)
    · exact hb
theorem paraN_begins {l : List Int} : ∀ {n i : Nat}, begins l i = true → begins l (paraN l n i) = true
  | 0, i, hb => hb
  | n + 1, i, hb => by
    simp only [paraN]
    split
    · exact paraN_begins (emptyDown_begins (fin_begins (begins_le hb)) (fun hlt => fin_nl hlt))
    · exact hb
theorem emptyUp_start {l : List Int} : ∀ {f i : Nat}, isStart l i → isStart l (emptyUp l f i)
  | 0, i, h => h
  | f + 1, i, h => by
    simp only [emptyUp]
    have := h.1
    split
    · split
      · exact isStart_start (by omega)
      · exact emptyUp_start (isStart_start (by omega))
    · exact h
theorem paraBackN_start {l : List Int} : ∀ {n i : Nat}, i ≤ l.length → (isStart l i ∨ 1 ≤ n) → isStart l (paraBackN l n i)
  | 0, i, hi, h => by
    rcases h with h | h
    · exact h
    · omega
  | n + 1, i, hi, h => by
    simp only [paraBackN]
    split
    · have := emptyUp_start (f := l.length) (isStart_start hi)
      exact paraBackN_start this.1 (.inl this)
    · rename_i h0
      exact ⟨hi, .inl (by omega)⟩
theorem rest_zero (l : List Int) : rest l 0 = 0 := rest_start rfl
/-- A goal: where a letter begins; without an operator where a cursor rests. -/
def GoalOk (l : List Int) (op : Bool) (o : Option Gl) : Prop := ∀ g, o = some g → begins l g.1 = true ∧ (op = false → rest l g.1 = g.1)
section
variable {l : List Int} {i : Nat} (hb : begins l i = true) (hr : rest l i = i) (a : List Int) (c : Int) (op : Bool)
include hb
theorem ok_h : GoalOk l op (motion l i [104] a c op) := by
  intro g hg
  rw [motion_h] at hg
  have hi := begins_le hb
  have hf := fin_le hi
  split at hg
  · rename_i hlt
    cases hg
    obtain ⟨h1, h2, h3, h4⟩ := lefts_spec (start_begins hi) (times c) i hb (start_le l i)
    exact ⟨h1, fun _ => rest_in hi h2 (by have := h4 (times_pos c) hlt; change lefts l (start l i) (times c) i < _; omega)⟩
  · cases hg
theorem ok_l : GoalOk l op (motion l i [108] a c op) := by
  intro g hg
  rw [motion_l] at hg
  have hi := begins_le hb
  have hf := fin_le hi
  have hs := start_le l i
  obtain ⟨r1, r2, r3, r4⟩ := rest_spec (fin_begins hi)
  cases op
  · simp only [Bool.false_eq_true, if_false] at hg
    split at hg
    · rename_i hlt
      cases hg
      obtain ⟨h1, h2, h3⟩ := along_begins r1 (times c) i hb (by omega)
      refine ⟨h1, fun _ => rest_in hi (by change _ ≤ along l (rest l (fin l i)) (times c) i; omega) ?_⟩
      have hsl := same_line (p := fin l i) hi (by omega) (Nat.le_refl _)
      have : rest l (fin l i) < fin l i := by
        unfold rest
        rw [if_pos ⟨hsl.2.symm, by omega⟩]
        have := lastSz_pos (l := l) (i := fin l i) (by omega) hf.2
        omega
      change along l (rest l (fin l i)) (times c) i < _
      omega
    · cases hg
  · simp only [if_true] at hg
    split at hg
    · rename_i hlt
      cases hg
      exact ⟨(along_begins (fin_begins hi) (times c) i hb (by omega)).1, fun h => by cases h⟩
    · cases hg
theorem ok_j : GoalOk l op (motion l i [106] a c op) := by
  intro g hg
  rw [motion_j] at hg
  cases hB : below l (times c) i with
  | none => rw [hB] at hg; cases hg
  | some p =>
    rw [hB] at hg
    cases hg
    have := rest_rests (colAt_spec (c := column l i) (below_le hB (begins_le hb))).1
    exact ⟨this.1, fun _ => this.2⟩
theorem ok_k : GoalOk l op (motion l i [107] a c op) := by
  intro g hg
  rw [motion_k] at hg
  cases hB : above l (times c) i with
  | none => rw [hB] at hg; cases hg
  | some p =>
    rw [hB] at hg
    cases hg
    have hp := begins_le (above_begins (begins_le hb) hB)
    have := rest_rests (colAt_spec (c := column l i) hp).1
    exact ⟨this.1, fun _ => this.2⟩
theorem ok_0 : GoalOk l op (motion l i [48] a c op) := by
  intro g hg
  rw [motion_0] at hg
  cases hg
  exact ⟨start_begins (begins_le hb), fun _ => rest_start (isStart_self (isStart_start (begins_le hb)))⟩
theorem ok_caret : GoalOk l op (motion l i [94] a c op) := by
  intro g hg
  rw [motion_caret] at hg
  cases hg
  exact ⟨(first_spec (begins_le hb)).1, fun _ => first_rests (begins_le hb)⟩
theorem ok_bar : GoalOk l op (motion l i [124] a c op) := by
  intro g hg
  rw [motion_bar] at hg
  cases hg
  have := rest_rests (colAt_spec (c := times c - 1) (begins_le hb)).1
  exact ⟨this.1, fun _ => this.2⟩
theorem ok_dollar : GoalOk l op (motion l i [36] a c op) := by
  intro g hg
  rw [motion_dollar] at hg
  cases hB : below l (times c - 1) i with
  | none => rw [hB] at hg; cases hg
  | some p =>
    rw [hB] at hg
    cases hg
    have := rest_rests (fin_begins (below_le hB (begins_le hb)))
    exact ⟨this.1, fun _ => this.2⟩
theorem ok_w : GoalOk l op (motion l i [119] a c op) := by
  intro g hg
  rw [motion_w] at hg
  have hw := wordsN_begins (op := op) (n := times c) hb
  split at hg
  · cases op
    · simp only [Bool.false_eq_true, if_false] at hg
      split at hg
      · cases hg
      · cases hg
        have := rest_rests hw
        exact ⟨this.1, fun _ => this.2⟩
    · simp only [if_true] at hg
      cases hg
      exact ⟨hw, fun h => by cases h⟩
  · cases hg
theorem ok_e : GoalOk l op (motion l i [101] a c op) := by
  intro g hg
  rw [motion_e] at hg
  cases hB : endsN l (times c) i with
  | none => rw [hB] at hg; cases hg
  | some p =>
    rw [hB] at hg
    cases hg
    obtain ⟨h1, h2⟩ := endsN_spec hb hB
    obtain ⟨h3, h4⟩ := h2 (times_pos c)
    exact ⟨h1, fun _ => rest_self (kls_ne h3 h4)⟩
theorem ok_b : GoalOk l op (motion l i [98] a c op) := by
  intro g hg
  rw [motion_b] at hg
  split at hg
  · cases hg
    obtain ⟨h1, h2⟩ := backsN_spec (n := times c) hb (.inr (.inr (times_pos c)))
    refine ⟨h1, fun _ => ?_⟩
    change rest l (backsN l (times c) i) = backsN l (times c) i
    rcases h2 with h2 | h2
    · rw [h2]; exact rest_zero l
    · exact rest_self (kls_ne h2.2 h2.1)
  · cases hg
omit hb in
theorem ok_G : GoalOk l op (motion l i [71] a c op) := by
  intro g hg
  rw [motion_G] at hg
  cases hg
  have hq : (if c < 1 then l.length else lineN l (c.toNat - 1) 0) ≤ l.length := by
    split
    · exact Nat.le_refl _
    · exact lineN_le l _ _ (Nat.zero_le _)
  exact ⟨(first_spec hq).1, fun _ => first_rests hq⟩
omit hb in
theorem ok_gg : GoalOk l op (motion l i [103, 103] a c op) := by
  intro g hg
  rw [motion_gg] at hg
  cases hg
  have hq := lineN_le l (c.toNat - 1) 0 (Nat.zero_le _)
  exact ⟨(first_spec hq).1, fun _ => first_rests hq⟩
theorem ahead_ok {p : Nat} (h : ahead l a (times c) i = some p) : begins l p = true ∧ i < p ∧ p < fin l i := by
  have hi := begins_le hb
  rw [ahead_eq l a _ hi] at h
  split at h
  · obtain ⟨h1, h2, h3, h4, h5⟩ := ahead_back (s := start l i) (fin_le hi).2 _ i (times c) p (Nat.le_refl _) hb (times_pos c) (start_le l i) h
    exact ⟨h1, h2, h3⟩
  · cases h
theorem behind_ok {p : Nat} (h : behind l a (times c) i = some p) : begins l p = true ∧ start l i ≤ p ∧ p < i := by
  have hi := begins_le hb
  rw [behind_eq l a _ hi] at h
  split at h
  · exact behind_spec (start_begins hi) _ i (times c) p (Nat.le_refl _) hb h
  · cases h
theorem ok_f : GoalOk l op (motion l i [102] a c op) := by
  intro g hg
  rw [motion_f] at hg
  cases hB : ahead l a (times c) i with
  | none => rw [hB] at hg; cases hg
  | some p =>
    rw [hB] at hg
    cases hg
    obtain ⟨h1, h2, h3⟩ := ahead_ok hb a c hB
    exact ⟨h1, fun _ => rest_in (begins_le hb) (by have := start_le l i; change _ ≤ p; omega) h3⟩
theorem ok_t : GoalOk l op (motion l i [116] a c op) := by
  intro g hg
  rw [motion_t] at hg
  cases hB : ahead l a (times c) i with
  | none => rw [hB] at hg; cases hg
  | some p =>
    rw [hB] at hg
    cases hg
    obtain ⟨h1, h2, h3⟩ := ahead_ok hb a c hB
    obtain ⟨t1, t2, t3, t4⟩ := prev_ge hb h1 h2
    exact ⟨t3, fun _ => rest_in (begins_le hb) (by have := start_le l i; change _ ≤ p - lastSz l p; omega) (by change p - lastSz l p < _; omega)⟩
theorem ok_F : GoalOk l op (motion l i [70] a c op) := by
  intro g hg
  rw [motion_F] at hg
  cases hB : behind l a (times c) i with
  | none => rw [hB] at hg; cases hg
  | some p =>
    rw [hB] at hg
    cases hg
    obtain ⟨h1, h2, h3⟩ := behind_ok hb a c hB
    have hf := fin_le (begins_le hb)
    exact ⟨h1, fun _ => rest_in (begins_le hb) h2 (by change p < _; omega)⟩
include hr in
theorem ok_T : GoalOk l op (motion l i [84] a c op) := by
  intro g hg
  rw [motion_T] at hg
  cases hB : behind l a (times c) i with
  | none => rw [hB] at hg; cases hg
  | some p =>
    rw [hB] at hg
    cases hg
    obtain ⟨h1, h2, h3⟩ := behind_ok hb a c hB
    have hi := begins_le hb
    have hf := fin_le hi
    have ho := on_before hb h3
    have hg := on_gt (show p < l.length by omega)
    refine ⟨begins_on h1 (by omega), fun _ => ?_⟩
    change rest l (on l p) = on l p
    rcases Nat.lt_or_ge (on l p) i with hlt | hge
    · exact rest_in hi (by omega) (by omega)
    · have e : on l p = i := by omega
      rw [e]; exact hr
theorem ok_down : GoalOk l op (motion l i [125] a c op) := by
  intro g hg
  rw [motion_down] at hg
  have hp := paraN_begins (n := times c) hb
  cases op
  · simp only [Bool.false_eq_true, if_false] at hg
    split at hg
    · cases hg
    · cases hg
      have := rest_rests hp
      exact ⟨this.1, fun _ => this.2⟩
  · simp only [if_true] at hg
    split at hg
    · cases hg
    · cases hg
      exact ⟨hp, fun h => by cases h⟩
theorem ok_up : GoalOk l op (motion l i [123] a c op) := by
  intro g hg
  rw [motion_up] at hg
  have hs := paraBackN_start (n := times c) (begins_le hb) (.inr (times_pos c))
  split at hg
  · cases hg
  · cases hg
    exact ⟨start_begins' hs, fun _ => rest_start (isStart_self hs)⟩
theorem ok_pair : GoalOk l op (motion l i [37] a c op) := by
  intro g hg
  rw [motion_pair] at hg
  rcases back_pair hb with h | ⟨q, h, e1, h2, h3, _⟩
  · rw [motion_pair] at h
    rw [h] at hg
    cases hg
  · rw [motion_pair] at e1
    rw [e1] at hg
    cases hg
    exact ⟨h2, fun _ => h3⟩
end
/-- The motions' keys, in the law's order. -/
def keyList : List (List UInt8) := [[104], [108], [106], [107], [48], [94], [36], [124], [119], [101], [98], [71], [103, 103], [102], [116], [70], [84], [123], [125], [37]]
theorem goals_ok {l : List Int} {i : Nat} (hb : begins l i = true) (hr : rest l i = i) (a : List Int) (c : Int) (op : Bool) : ∀ key ∈ keyList, GoalOk l op (motion l i key a c op) := by
  intro key hk
  simp only [keyList, List.mem_cons, List.not_mem_nil, or_false] at hk
  rcases hk with rfl | rfl | rfl | rfl | rfl | rfl | rfl | rfl | rfl | rfl | rfl | rfl | rfl | rfl | rfl | rfl | rfl | rfl | rfl | rfl
  · exact ok_h hb a c op
  · exact ok_l hb a c op
  · exact ok_j hb a c op
  · exact ok_k hb a c op
  · exact ok_0 hb a c op
  · exact ok_caret hb a c op
  · exact ok_dollar hb a c op
  · exact ok_bar hb a c op
  · exact ok_w hb a c op
  · exact ok_e hb a c op
  · exact ok_b hb a c op
  · exact ok_G a c op
  · exact ok_gg a c op
  · exact ok_f hb a c op
  · exact ok_t hb a c op
  · exact ok_F hb a c op
  · exact ok_T hb hr a c op
  · exact ok_up hb a c op
  · exact ok_down hb a c op
  · exact ok_pair hb a c op
end Go.Proofs.Ytiibjehnlphabaa

end

section
namespace Go.Proofs.Ytiibjehnlphabaa
open Go.RowKit Go.Proofs.YtiibjehnlphabaaW.PrintWords Go.Proofs.YtiibjehnlphabaaW.PrintMore Q
set_option linter.unusedVariables false
set_option linter.unusedSimpArgs false
def keyBA : List ByteArray := [⟨#[104]⟩, ⟨#[108]⟩, ⟨#[106]⟩, ⟨#[107]⟩, ⟨#[48]⟩, ⟨#[94]⟩, ⟨#[36]⟩, ⟨#[124]⟩, ⟨#[119]⟩, ⟨#[101]⟩, ⟨#[98]⟩, ⟨#[71]⟩, ⟨#[103, 103]⟩, ⟨#[102]⟩, ⟨#[116]⟩, ⟨#[70]⟩, ⟨#[84]⟩, ⟨#[123]⟩, ⟨#[125]⟩, ⟨#[37]⟩]
def keyCells : Array Value := (keyBA.map Value.string).toArray
/-- The block that holds the keys. -/
def Kb (w : World) (kb : Nat) : Prop := w.heap[kb]? = some (.cells keyCells 9 (0, 0))
theorem Kb.at_ {w : World} {kb : Nat} (h : Kb w kb) {i : Nat} (hi : i < 20) : ∃ k : ByteArray, w.cell? ⟨kb, i, none⟩ = some (.string k) ∧ k.toList ∈ keyList := by
  have hm : ∀ i : Nat, i < 20 → (keyBA.getD i ⟨#[]⟩).data.toList ∈ keyList := by decide
  have hl : keyBA.length = 20 := rfl
  refine ⟨keyBA.getD i ⟨#[]⟩, ?_, ?_⟩
  · unfold Kb at h
    simp [World.cell?, h, keyCells, List.getD_eq_getElem?_getD, hl, hi]
  · rw [Lib.toList_data]; exact hm i hi
theorem keys_calls (w : World) : Calls Try.prog 20 #[] w fun e w' => e = .returned (.slice (some ⟨w.heap.size, 0, none⟩) 20 20) ∧ w' = w.alloc (.cells keyCells 9) := by
  go_enter Try.func20, Try.ntmps20
  go_wp2_with fail
  go_ret
  exact ⟨rfl, rfl⟩
section
variable {w0 w w1 : World} {A : Option Addr} {c : Nat} {l : List Int} {A2 : Option Addr} {c2 : Nat} {a : List Int} {cn : Int} {mb kb : Nat} {key : ByteArray} {gs : List (Nat × Int × Bool × Bool)}
theorem c_May (h : Sl w A2 c2 a) (key : ByteArray) (cn : Int) (b : Bool) (hb : escritoirelaw23_May.f key a cn = some b) : Calls Try.prog 14 #[.agg #[.string key, .slice A2 a.length c2, .int .i64 cn]] w fun e w' => e = .returned (.bool b) ∧ Below w.heap.size w w' :=
  escritoirelaw23_May.calls key A2 c2 a cn b w h.reads h.cap hb
theorem c_Begins (h : Sl w A c l) {i : Nat} (hb : begins l i = true) : Calls Try.prog 19 #[.slice A l.length c, .int .i64 (i : Int)] w fun e w' => e = .returned (.bool true) ∧ Below w.heap.size w w' := by
  obtain ⟨k, e⟩ := (begins_ev h.ok i (begins_le hb)).rounds
  rw [hb] at e
  exact utf_Begins.calls k A c l i _ w h.reads h.cap e
theorem goV_some3 (x : Nat) (y z : Bool) : goV (some (x, y, z)) = .tuple #[.agg #[.int .i64 (x : Int), .bool y, .bool z], .bool true] := rfl
/-- What stands between the calls: the bytes, the motion's box, the keys, the goals. -/
structure Rs (w0 w : World) (A : Option Addr) (c : Nat) (l : List Int) (A2 : Option Addr) (c2 : Nat) (a : List Int) (cn : Int) (mb kb : Nat) (key : ByteArray) (gs : List (Nat × Int × Bool × Bool)) : Prop where
  s0 : Sl w0 A c l
  a0 : Sl w0 A2 c2 a
  ls : Ls w0 w A c l gs
  sa : Sl w A2 c2 a
  m : w.heap[mb]? = some (.cells #[.string key, .slice A2 a.length c2, .int .i64 cn] 29 (0, 0))
  ks : Kb w kb
  hm : w0.heap.size ≤ mb
  hk : mb ≠ kb
theorem blk_lt2 {b : Nat} {o : Obj} (h : w.heap[b]? = some o) : b < w.heap.size := by
  rcases Nat.lt_or_ge b w.heap.size with hlt | hge
  · exact hlt
  · rw [Array.getElem?_eq_none hge] at h; cases h
theorem Rs.two (h : Rs w0 w A c l A2 c2 a cn mb kb key gs) (hb : Below w.heap.size w w1) : Rs w0 w1 A c l A2 c2 a cn mb kb key gs :=
  ⟨h.s0, h.a0, h.ls.two hb, h.sa.below hb, (hb.block mb (blk_lt2 h.m)).trans h.m, (hb.block kb (blk_lt2 h.ks)).trans h.ks, h.hm, h.hk⟩
theorem Rs.step {w2 : World} (h : Rs w0 w A c l A2 c2 a cn mb kb key gs) (h1 : Below w.heap.size w w1) (h2 : Below w1.heap.size w1 w2) : Rs w0 w2 A c l A2 c2 a cn mb kb key gs := (h.two h1).two h2
theorem Rs.goal (h : Rs w0 w A c l A2 c2 a cn mb kb key gs) (x : Int) (y z : Bool) : Rs w0 (w.alloc (.cells #[.int .i64 x, .bool y, .bool z] 25)) A c l A2 c2 a cn mb kb key ((w.heap.size, x, y, z) :: gs) := by
  have hb := below_alloc (Below.refl w.heap.size w) (.cells #[.int .i64 x, .bool y, .bool z] 25)
  have h2 := h.two hb
  exact ⟨h.s0, h.a0, h.ls.goal x y z, h2.sa, h2.m, h2.ks, h.hm, h.hk⟩
theorem Rs.bare (h : Rs w0 w A c l A2 c2 a cn mb kb key gs) : Rs w0 w A c l A2 c2 a cn mb kb key [] := ⟨h.s0, h.a0, h.ls.bare, h.sa, h.m, h.ks, h.hm, h.hk⟩
theorem Rs.set_ (h : Rs w0 w A c l A2 c2 a cn mb kb key gs) (k : ByteArray) : Rs w0 (w.setCell ⟨mb, 0, none⟩ (.string k)) A c l A2 c2 a cn mb kb k [] := by
  have hb : Below w0.heap.size w0 (w.setCell ⟨mb, 0, none⟩ (.string k)) := h.ls.bel.setCell (p := ⟨mb, 0, none⟩) h.hm _
  refine ⟨h.s0, h.a0, ⟨h.s0.below hb, hb, fun p hp => by cases hp⟩, h.a0.below hb, ?_, ?_, h.hm, h.hk⟩
  · simp [World.setCell, Array.getElem?_modify, h.m]
  · have := h.ks
    unfold Kb at this ⊢
    simp [World.setCell, Array.getElem?_modify, this, h.hk]
theorem Rs.mcells (h : Rs w0 w A c l A2 c2 a cn mb kb key gs) : w.cell? ⟨mb, 0, none⟩ = some (.string key) ∧ w.cell? ⟨mb, 1, none⟩ = some (.slice A2 a.length c2) ∧ w.cell? ⟨mb, 2, none⟩ = some (.int .i64 cn) ∧ w.frozen? ⟨mb, 0, none⟩ = false ∧ w.frozen? ⟨mb, 1, none⟩ = false ∧ w.frozen? ⟨mb, 2, none⟩ = false := by
  have := h.m
  exact ⟨by simp [World.cell?, this], by simp [World.cell?, this], by simp [World.cell?, this], by simp [World.frozen?, this], by simp [World.frozen?, this], by simp [World.frozen?, this]⟩
end
section
variable {w : World} {A : Option Addr} {c : Nat} {l : List Int} {A2 : Option Addr} {c2 : Nat} {a : List Int} {cn : Int} {key : ByteArray}
theorem rests_begin (hS : Sl w A c l) (hA : Sl w A2 c2 a) (key : ByteArray) (cn : Int) {w1 : World} (hb : Below (w.alloc (.cells #[.string key, .slice A2 a.length c2, .int .i64 cn] 29)).heap.size (w.alloc (.cells #[.string key, .slice A2 a.length c2, .int .i64 cn] 29)) w1) :
    Ls w w1 A c l [] ∧ Sl w1 A2 c2 a ∧ w1.heap[w.heap.size]? = some (.cells #[.string key, .slice A2 a.length c2, .int .i64 cn] 29 (0, 0)) := by
  have h1 := below_alloc (Below.refl w.heap.size w) (.cells #[.string key, .slice A2 a.length c2, .int .i64 cn] 29)
  have h2 := h1.trans (hb.mono h1.size)
  refine ⟨(Ls.begin_ hS).two h2, hA.below h2, ?_⟩
  have h3 := heap_alloc_new w (.cells #[.string key, .slice A2 a.length c2, .int .i64 cn] 29)
  exact (hb.block _ (blk_lt2 h3)).trans h3
set_option maxRecDepth 100000 in
set_option maxHeartbeats 4000000 in
theorem lawRests_in (hS : Sl w A c l) (hA : Sl w A2 c2 a) (at_ : Int) (hc1 : -9223372036854775808 ≤ cn) (hc2 : cn ≤ 9223372036854775807) (hl : ¬ 1000 < l.length) (hM : escritoirelaw23_May.f key a cn = some true) :
    Calls Try.prog 5 #[.slice A l.length c, .int .i64 at_, .agg #[.string key, .slice A2 a.length c2, .int .i64 cn]] w fun e w' => e = .returned (.bool true) ∧ Below w.heap.size w w' := by
  have HS1 := Aside0.mk hS
  have HA1 := Aside0.mk hA
  have HM := Aside0.mk hM
  have hsz := hS.ok.size
  clear hS hA hM
  have t1 : decide ((1000 : Int) < (l.length : Int)) = false := decide_eq_false (by omega)
  have t1' : decide (1000 < l.length) = false := decide_eq_false (by omega)
  go_enter Try.func5, Try.ntmps5
  go_wp2_with fail
  refine (awake_calls _).mono ?_
  rintro e w1 ⟨rfl, hb⟩
  have HB := Aside0.mk (rests_begin HS1.out HA1.out key cn hb)
  clear hb
  obtain ⟨m0, m1, m2⟩ : w1.cell? ⟨w.heap.size, 0, none⟩ = some (.string key) ∧ w1.cell? ⟨w.heap.size, 1, none⟩ = some (.slice A2 a.length c2) ∧ w1.cell? ⟨w.heap.size, 2, none⟩ = some (.int .i64 cn) := by
    have := HB.out.2.2
    exact ⟨by simp [World.cell?, this], by simp [World.cell?, this], by simp [World.cell?, this]⟩
  go_wp2_with fail
  refine (c_May HB.out.2.1 key cn true HM.out).mono ?_
  rintro e w2 ⟨rfl, hb⟩
  have HT := Aside0.mk (And.intro (HB.out.1.two hb) (And.intro (HB.out.2.1.below hb) ((hb.block _ (blk_lt2 HB.out.2.2)).trans HB.out.2.2)))
  clear hb HB m0 m1 m2
  have HB := HT
  clear HT t1 t1'
  go_wp2_with fail
  refine (c_Rest HB.out.1.sl at_).mono ?_
  rintro e w3 ⟨rfl, hb⟩
  have HT := Aside0.mk (And.intro (HB.out.1.two hb) (And.intro (HB.out.2.1.below hb) ((hb.block _ (blk_lt2 HB.out.2.2)).trans HB.out.2.2)))
  clear hb HB
  have HB := HT
  clear HT
  have HPB := Aside0.mk (rest_rests (place_begins l at_)).1
  have HPR := Aside0.mk (rest_rests (place_begins l at_)).2
  generalize rest l (place l at_) = p at *
  have HRP : Aside0 (rest l (place l (p : Int)) = p) := ⟨by rw [place_self HPB.out]; exact HPR.out⟩
  go_wp2_with fail
  refine (HRP.out ▸ c_Rest HB.out.1.sl (p : Int)).mono ?_
  rintro e w4 ⟨rfl, hb⟩
  have HT := Aside0.mk (And.intro (HB.out.1.two hb) (And.intro (HB.out.2.1.below hb) ((hb.block _ (blk_lt2 HB.out.2.2)).trans HB.out.2.2)))
  clear hb HB
  have HB := HT
  clear HT
  go_wp2_with fail
  refine (c_Begins HB.out.1.sl HPB.out).mono ?_
  rintro e w5 ⟨rfl, hb⟩
  have HT := Aside0.mk (And.intro (HB.out.1.two hb) (And.intro (HB.out.2.1.below hb) ((hb.block _ (blk_lt2 HB.out.2.2)).trans HB.out.2.2)))
  clear hb HB
  have HB := HT
  clear HT
  go_wp2_with fail
  refine (keys_calls w5).mono ?_
  rintro e w6 ⟨rfl, hb⟩
  have HS : Aside0 (Rs w w6 A c l A2 c2 a cn w.heap.size w5.heap.size key []) := ⟨by
    have h1 := below_alloc (Below.refl w5.heap.size w5) (.cells keyCells 9)
    rw [← hb] at h1
    have h3 := heap_alloc_new w5 (.cells keyCells 9)
    rw [← hb] at h3
    have h4 := blk_lt2 HB.out.2.2
    exact ⟨HS1.out, HA1.out, HB.out.1.two h1, HB.out.2.1.below h1, (h1.block _ (blk_lt2 HB.out.2.2)).trans HB.out.2.2, h3, Nat.le_refl _, by omega⟩⟩
  clear hb HB HS1 HA1 HM HRP
  go_wp2_with fail
  go_loopw [8] (fun v8 wr => ∃ (i : Nat) (k : ByteArray), v8 = .int .i64 (i : Int) ∧ i ≤ 20 ∧ Aside0 (Rs w wr A c l A2 c2 a cn w.heap.size w5.heap.size k [])) (fun v8 _ => 20 - (intOf v8).toNat)
  case atStart => exact ⟨0, key, rfl, by omega, HS⟩
  case round =>
    clear HS
    obtain ⟨i, k0, rfl, hi, HS⟩ := hrel
    by_cases hlt : i < 20
    · obtain ⟨ki, hcell, hki⟩ := HS.out.ks.at_ hlt
      obtain ⟨m0, m1, m2, m3, m4, m5⟩ := HS.out.mcells
      go_wp2_with fail
      have HT := Aside0.mk (HS.out.set_ ki)
      clear HS m0 m1 m2 m3 m4 m5 hcell
      have HS := HT
      clear HT
      have HOK1 := Aside0.mk (goals_ok HPB.out HPR.out a cn false _ hki)
      cases hO1 : motion l p ki.toList a cn false with
      | none =>
        refine (c_go HS.out.ls.sl HS.out.sa HPB.out rfl hc1 hc2 false _ rfl).mono ?_
        rintro e w10 ⟨rfl, hb⟩
        simp only [hO1]
        have HT := Aside0.mk ((HS.out.two hb).goal 0 false false)
        clear hb HS
        have HS := HT
        clear HT
        simp only [goV_none]
        go_wp2_with fail
        go_quiet (fail)
        obtain ⟨m0, m1, m2, m3, m4, m5⟩ := HS.out.mcells
        go_wp2_with fail
        have HOK2 := Aside0.mk (goals_ok HPB.out HPR.out a cn true _ hki)
        cases hO2 : motion l p ki.toList a cn true with
        | none =>
          refine (c_go (HS.out.two (by first | exact Below.refl _ _ | exact below_drew (Below.refl _ _) | exact pw_below_drewN (Below.refl _ _) _)).ls.sl (HS.out.two (by first | exact Below.refl _ _ | exact below_drew (Below.refl _ _) | exact pw_below_drewN (Below.refl _ _) _)).sa HPB.out rfl hc1 hc2 true _ rfl).mono ?_
          rintro e w12 ⟨rfl, hb⟩
          simp only [hO2]
          have HT := Aside0.mk ((HS.out.step (by first | exact Below.refl _ _ | exact below_drew (Below.refl _ _) | exact pw_below_drewN (Below.refl _ _) _) hb).goal 0 false false)
          clear hb HS m0 m1 m2 m3 m4 m5
          have HS := HT
          clear HT
          simp only [goV_none]
          go_wp2_with fail
          go_roundw
          case rel => exact ⟨i + 1, ki, by go_num, by omega, ⟨HS.out.bare⟩⟩
          case measure => simp [intOf]; omega
        | some t2 =>
          obtain ⟨x2, y2, z2⟩ := t2
          have hgo := HOK2.out _ hO2
          have hxl2 := begins_le hgo.1
          have HBX := Aside0.mk hgo.1
          clear hgo
          refine (c_go (HS.out.two (by first | exact Below.refl _ _ | exact below_drew (Below.refl _ _) | exact pw_below_drewN (Below.refl _ _) _)).ls.sl (HS.out.two (by first | exact Below.refl _ _ | exact below_drew (Below.refl _ _) | exact pw_below_drewN (Below.refl _ _) _)).sa HPB.out rfl hc1 hc2 true _ rfl).mono ?_
          rintro e w12 ⟨rfl, hb⟩
          simp only [hO2]
          have HT := Aside0.mk ((HS.out.step (by first | exact Below.refl _ _ | exact below_drew (Below.refl _ _) | exact pw_below_drewN (Below.refl _ _) _) hb).goal x2 y2 z2)
          clear hb HS m0 m1 m2 m3 m4 m5
          have HS := HT
          clear HT
          simp only [goV_some3]
          obtain ⟨e0, e1, e2⟩ := HS.out.ls.cells (g := w12.heap.size) (x := x2) (y := y2) (z := z2) (by simp)
          go_wp2_with fail
          refine (c_Begins HS.out.ls.sl HBX.out).mono ?_
          rintro e w13 ⟨rfl, hb⟩
          have HT := Aside0.mk (HS.out.two hb)
          clear hb HS e0 e1 e2
          have HS := HT
          clear HT
          obtain ⟨e0, e1, e2⟩ := HS.out.ls.cells (g := w12.heap.size) (x := x2) (y := y2) (z := z2) (by simp)
          have t1 : decide ((x2 : Int) < (0 : Int)) = false := decide_eq_false (by omega)
          have t1' : decide (x2 < 0) = false := decide_eq_false (by omega)
          have t2 : decide ((l.length : Int) < (x2 : Int)) = false := decide_eq_false (by omega)
          have t2' : decide (l.length < x2) = false := decide_eq_false (by omega)
          go_wp2_with fail
          go_roundw
          case rel => exact ⟨i + 1, ki, by go_num, by omega, ⟨HS.out.bare⟩⟩
          case measure => simp [intOf]; omega
      | some t =>
        obtain ⟨x, y, z⟩ := t
        have hgo := HOK1.out _ hO1
        have hxl := begins_le hgo.1
        have hrx : rest l (place l (x : Int)) = x := by rw [place_self hgo.1]; exact hgo.2 rfl
        have HRX := Aside0.mk hrx
        clear hrx hgo
        refine (c_go HS.out.ls.sl HS.out.sa HPB.out rfl hc1 hc2 false _ rfl).mono ?_
        rintro e w10 ⟨rfl, hb⟩
        simp only [hO1]
        have HT := Aside0.mk ((HS.out.two hb).goal x y z)
        clear hb HS
        have HS := HT
        clear HT
        simp only [goV_some3]
        obtain ⟨m0, m1, m2, m3, m4, m5⟩ := HS.out.mcells
        go_wp2_with fail
        clear m0 m1 m2 m3 m4 m5
        have t1 : decide ((x : Int) < (0 : Int)) = false := decide_eq_false (by omega)
        have t1' : decide (x < 0) = false := decide_eq_false (by omega)
        have t2 : decide ((l.length : Int) < (x : Int)) = false := decide_eq_false (by omega)
        have t2' : decide (l.length < x) = false := decide_eq_false (by omega)
        go_region_held3 (fun w' => w'.cell? ⟨w10.heap.size, 0, none⟩ = some (.int .i64 (x : Int)))
          (first | exact (HS.out.ls.cells (g := w10.heap.size) (x := x) (y := y) (z := z) (by simp)).1 | exact ((HS.out.two (below_drew (Below.refl _ _))).ls.cells (g := w10.heap.size) (x := x) (y := y) (z := z) (by simp)).1)
          (first | (go_at_call 18; refine (HRX.out ▸ c_Rest (HS.out.two (by first | exact Below.refl _ _ | exact below_drew (Below.refl _ _) | exact pw_below_drewN (Below.refl _ _) _)).ls.sl (x : Int)).mono ?_; rintro e w11 ⟨rfl, hd⟩; have HT := Aside0.mk (HS.out.step (by first | exact Below.refl _ _ | exact below_drew (Below.refl _ _) | exact pw_below_drewN (Below.refl _ _) _) hd); clear hd HS; have HS := HT; clear HT))
        clear t1 t1' t2 t2'
        obtain ⟨m0, m1, m2, m3, m4, m5⟩ := HS.out.mcells
        go_wp2_with fail
        have HOK2 := Aside0.mk (goals_ok HPB.out HPR.out a cn true _ hki)
        cases hO2 : motion l p ki.toList a cn true with
        | none =>
          refine (c_go (HS.out.two (by first | exact Below.refl _ _ | exact below_drew (Below.refl _ _) | exact pw_below_drewN (Below.refl _ _) _)).ls.sl (HS.out.two (by first | exact Below.refl _ _ | exact below_drew (Below.refl _ _) | exact pw_below_drewN (Below.refl _ _) _)).sa HPB.out rfl hc1 hc2 true _ rfl).mono ?_
          rintro e w14 ⟨rfl, hb⟩
          simp only [hO2]
          have HT := Aside0.mk ((HS.out.step (by first | exact Below.refl _ _ | exact below_drew (Below.refl _ _) | exact pw_below_drewN (Below.refl _ _) _) hb).goal 0 false false)
          clear hb HS m0 m1 m2 m3 m4 m5
          have HS := HT
          clear HT
          simp only [goV_none]
          go_wp2_with fail
          go_roundw
          case rel => exact ⟨i + 1, ki, by go_num, by omega, ⟨HS.out.bare⟩⟩
          case measure => simp [intOf]; omega
        | some t2 =>
          obtain ⟨x2, y2, z2⟩ := t2
          have hgo := HOK2.out _ hO2
          have hxl2 := begins_le hgo.1
          have HBX := Aside0.mk hgo.1
          clear hgo
          refine (c_go (HS.out.two (by first | exact Below.refl _ _ | exact below_drew (Below.refl _ _) | exact pw_below_drewN (Below.refl _ _) _)).ls.sl (HS.out.two (by first | exact Below.refl _ _ | exact below_drew (Below.refl _ _) | exact pw_below_drewN (Below.refl _ _) _)).sa HPB.out rfl hc1 hc2 true _ rfl).mono ?_
          rintro e w14 ⟨rfl, hb⟩
          simp only [hO2]
          have HT := Aside0.mk ((HS.out.step (by first | exact Below.refl _ _ | exact below_drew (Below.refl _ _) | exact pw_below_drewN (Below.refl _ _) _) hb).goal x2 y2 z2)
          clear hb HS m0 m1 m2 m3 m4 m5
          have HS := HT
          clear HT
          simp only [goV_some3]
          obtain ⟨e0, e1, e2⟩ := HS.out.ls.cells (g := w14.heap.size) (x := x2) (y := y2) (z := z2) (by simp)
          go_wp2_with fail
          refine (c_Begins HS.out.ls.sl HBX.out).mono ?_
          rintro e w15 ⟨rfl, hb⟩
          have HT := Aside0.mk (HS.out.two hb)
          clear hb HS e0 e1 e2
          have HS := HT
          clear HT
          obtain ⟨e0, e1, e2⟩ := HS.out.ls.cells (g := w14.heap.size) (x := x2) (y := y2) (z := z2) (by simp)
          have t1 : decide ((x2 : Int) < (0 : Int)) = false := decide_eq_false (by omega)
          have t1' : decide (x2 < 0) = false := decide_eq_false (by omega)
          have t2 : decide ((l.length : Int) < (x2 : Int)) = false := decide_eq_false (by omega)
          have t2' : decide (l.length < x2) = false := decide_eq_false (by omega)
          go_wp2_with fail
          go_roundw
          case rel => exact ⟨i + 1, ki, by go_num, by omega, ⟨HS.out.bare⟩⟩
          case measure => simp [intOf]; omega
    · obtain rfl : i = 20 := by omega
      go_wp2_with fail
      go_ret
      exact ⟨rfl, HS.out.ls.bel⟩
set_option maxRecDepth 100000 in
theorem lawRests_out (hS : Sl w A c l) (hA : Sl w A2 c2 a) (at_ : Int) (h : 1000 < l.length ∨ escritoirelaw23_May.f key a cn = some false) :
    Calls Try.prog 5 #[.slice A l.length c, .int .i64 at_, .agg #[.string key, .slice A2 a.length c2, .int .i64 cn]] w fun e w' => e = .returned (.bool true) ∧ Below w.heap.size w w' := by
  have HS1 := Aside0.mk hS
  have HA1 := Aside0.mk hA
  have hsz := hS.ok.size
  clear hS hA
  by_cases hl : 1000 < l.length
  · have t1 : decide ((1000 : Int) < (l.length : Int)) = true := decide_eq_true (by omega)
    have t1' : decide (1000 < l.length) = true := decide_eq_true (by omega)
    clear h
    go_enter Try.func5, Try.ntmps5
    go_wp2_with fail
    refine (awake_calls _).mono ?_
    rintro e w1 ⟨rfl, hb⟩
    have HB := Aside0.mk (rests_begin HS1.out HA1.out key cn hb)
    clear hb
    go_wp2_with fail
    go_ret
    exact ⟨rfl, HB.out.1.bel⟩
  · have t1 : decide ((1000 : Int) < (l.length : Int)) = false := decide_eq_false (by omega)
    have t1' : decide (1000 < l.length) = false := decide_eq_false (by omega)
    have HM : Aside0 (escritoirelaw23_May.f key a cn = some false) := ⟨by rcases h with h | h <;> first | omega | exact h⟩
    clear h
    go_enter Try.func5, Try.ntmps5
    go_wp2_with fail
    refine (awake_calls _).mono ?_
    rintro e w1 ⟨rfl, hb⟩
    have HB := Aside0.mk (rests_begin HS1.out HA1.out key cn hb)
    clear hb
    obtain ⟨m0, m1, m2⟩ : w1.cell? ⟨w.heap.size, 0, none⟩ = some (.string key) ∧ w1.cell? ⟨w.heap.size, 1, none⟩ = some (.slice A2 a.length c2) ∧ w1.cell? ⟨w.heap.size, 2, none⟩ = some (.int .i64 cn) := by
      have := HB.out.2.2
      exact ⟨by simp [World.cell?, this], by simp [World.cell?, this], by simp [World.cell?, this]⟩
    go_wp2_with fail
    refine (c_May HB.out.2.1 key cn false HM.out).mono ?_
    rintro e w2 ⟨rfl, hb⟩
    have HT := Aside0.mk (HB.out.1.two hb)
    clear hb HB m0 m1 m2
    have HB := HT
    clear HT
    go_wp2_with fail
    go_ret
    exact ⟨rfl, HB.out.bel⟩
theorem may_any (key : ByteArray) (a : List Int) (cn : Int) : ∃ b, escritoirelaw23_May.f key a cn = some b := by
  unfold escritoirelaw23_May.f
  split
  · exact ⟨_, rfl⟩
  · exact ⟨_, rfl⟩
theorem lawRests_calls (hS : Sl w A c l) (at_ : Int) (h1 : (Lit.int .i64 at_).wf = true) (hA : Sl w A2 c2 a) (key : ByteArray) (hc : (Lit.int .i64 cn).wf = true) :
    Calls Try.prog 5 #[.slice A l.length c, .int .i64 at_, .agg #[.string key, .slice A2 a.length c2, .int .i64 cn]] w fun e w' => e = .returned (.bool true) ∧ Below w.heap.size w w' := by
  obtain ⟨hc1, hc2⟩ := i64_of hc
  obtain ⟨b, hb⟩ := may_any key a cn
  by_cases hl : 1000 < l.length
  · exact lawRests_out hS hA at_ (.inl hl)
  · cases b
    · exact lawRests_out hS hA at_ (.inr hb)
    · exact lawRests_in hS hA at_ hc1 hc2 hl hb
end
end Go.Proofs.Ytiibjehnlphabaa

end
