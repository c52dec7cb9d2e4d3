/- The row of law MoveGoes of chapter 23 holds, for every input that the row names (part 7). Conditions: none. A program joined it out of texts of this work; the words (namespaces YtiibjehnlphabaaW..) and the functions named X.f with their contracts X.calls were first written by the print tool of the kit, the functions in a copy of it that takes given contracts; what the theorem does not use is struck. -/
import Derived.WalkSpells
import Derived.WalkLawsBesides
import Derived.StillTailTactics
import Derived.WalkKit
import Derived.Deep.QuietTactic
import Derived.BigQuiet
import Derived.Deep.RegionHeld3
import Derived.IntWalk
import Derived.Test.YtiibjehnlphabaaMoveGoes6
section
namespace Go.Proofs.Ytiibjehnlphabaa
open Go.RowKit Go.Proofs.YtiibjehnlphabaaW.PrintWords Go.Proofs.YtiibjehnlphabaaW.PrintMore Q
set_option linter.unusedVariables false
set_option linter.unusedSimpArgs false

theorem Ev.pos {α : Type} {c : Prop} [Decidable c] {g f : Nat → Option α} {r : α} (h : c) (k : Ev g r) : Ev (fun n => if c then g n else f n) r := by
  simp only [if_pos h]; exact k
theorem Ev.neg {α : Type} {c : Prop} [Decidable c] {g f : Nat → Option α} {r : α} (h : ¬ c) (k : Ev f r) : Ev (fun n => if c then g n else f n) r := by
  simp only [if_neg h]; exact k
theorem Ev.is {α : Type} {g : Nat → Option α} {r r' : α} (k : Ev g r) (h : r = r') : Ev g r' := h ▸ k
theorem w64 {n : Int} (h1 : -9223372036854775808 ≤ n) (h2 : n ≤ 9223372036854775807) : wrap64 n = n := by unfold wrap64; omega
structure OkL (l : List Int) : Prop where
  bytes : l.all byteB = true
  size : l.length ≤ 140737488351232
theorem OkL.drop {l : List Int} (h : OkL l) (i : Nat) : OkL (l.drop i) :=
  ⟨List.all_eq_true.2 fun x hx => List.all_eq_true.1 h.bytes x (List.mem_of_mem_drop hx), by have := h.size; rw [List.length_drop]; omega⟩
theorem OkL.take {l : List Int} (h : OkL l) (i : Nat) : OkL (l.take i) :=
  ⟨List.all_eq_true.2 fun x hx => List.all_eq_true.1 h.bytes x (List.mem_of_mem_take hx), by have := h.size; rw [List.length_take]; omega⟩
theorem OkL.at_ {l : List Int} (h : OkL l) {i : Nat} (hi : i < l.length) : 0 ≤ l.getD i 0 ∧ l.getD i 0 ≤ 255 := by
  have := List.all_eq_true.1 h.bytes _ (List.getElem_mem hi)
  rw [List.getD_eq_getElem?_getD, List.getElem?_eq_getElem hi]
  simp [byteB] at this
  exact this
theorem sev_some {l : List Int} (ok : OkL l) : utf_several.f l = some (sevOf l) := by unfold utf_several.f; rw [if_pos ok.bytes]
theorem rd_nat (l : List Int) (i : Nat) : rd l (i : Int) = l.getD i 0 := by simp [rd]

theorem next_ev {l : List Int} (ok : OkL l) (i : Nat) : Ev (fun k => utf_Next.f k l (i : Int)) (rn l i, (sz l i : Int)) := by
  simp only [utf_Next.f]
  refine Ev.neg (by omega) ?_
  refine Ev.step (fun k => rfl) ?_
  simp only [utf_Next.j0]
  by_cases hi : i < l.length
  · refine Ev.neg (by simp; omega) (Ev.pos (by omega) (Ev.pos (by omega) ?_))
    rw [show ((i : Int)).toNat = i by omega, sev_some (ok.drop i)]
    simp only [Option.bind_some]
    have hc := sev_cast l i
    by_cases hs : 0 < sev l i
    · refine Ev.pos (by omega) (Ev.is (Ev.now _) ?_)
      simp only [rn, sz, if_pos hi, if_pos hs, hc]
    · refine Ev.neg (by omega) (Ev.pos (by omega) ?_)
      rw [rd_nat]
      have hb := ok.at_ hi
      by_cases h128 : l.getD i 0 < 128
      · refine Ev.pos h128 (Ev.is (Ev.now _) ?_)
        simp only [rn, sz, if_pos hi, if_neg hs, if_pos h128]
        rw [w64 (by omega) (by omega)]
        rfl
      · refine Ev.neg h128 (Ev.is (Ev.now _) ?_)
        simp only [rn, sz, if_pos hi, if_neg hs, if_neg h128]
        rfl
  · refine Ev.pos (by simp; omega) (Ev.is (Ev.now _) ?_)
    simp only [rn, sz, if_neg hi]
    rfl
theorem class_ev (r : Int) : Ev (fun k => utf_Class.f k r) (cls r) := by
  simp only [utf_Class.f]
  have tail : ∀ b : Bool, (b = true ↔ r = 9 ∨ r = 10 ∨ r = 13 ∨ r = 32) → Ev (fun k => utf_Class.j0 k r b) (cls r) := by
    intro b hb
    refine Ev.step (fun k => rfl) ?_
    simp only [utf_Class.j0, utf_between.f]
    unfold cls
    by_cases h0 : r = 9 ∨ r = 10 ∨ r = 13 ∨ r = 32
    · rw [if_pos h0]
      exact Ev.pos (hb.2 h0) (Ev.now _)
    · rw [if_neg h0]
      refine Ev.neg (fun h => h0 (hb.1 h)) ?_
      rw [show wrap64 97 = 97 from w64 (by omega) (by omega), show wrap64 122 = 122 from w64 (by omega) (by omega), show wrap64 65 = 65 from w64 (by omega) (by omega), show wrap64 90 = 90 from w64 (by omega) (by omega), show wrap64 48 = 48 from w64 (by omega) (by omega), show wrap64 57 = 57 from w64 (by omega) (by omega)]
      by_cases h1 : 97 ≤ r <;> by_cases h2 : r ≤ 122 <;> by_cases h3 : 65 ≤ r <;> by_cases h4 : r ≤ 90 <;> by_cases h5 : 48 ≤ r <;> by_cases h6 : r ≤ 57 <;> by_cases h7 : r = 95 <;> by_cases h8 : 127 < r
      all_goals first
        | (exfalso; omega)
        | (refine Ev.is (Ev.now _) ?_; simp [h1, h2, h3, h4, h5, h6, h7, h8]; done)
        | (simp [h1, h2, h3, h4, h5, h6, h7, h8]; exact Ev.now _)
  by_cases a : r = 9
  · exact Ev.pos a (tail true (by simp [a]))
  · refine Ev.neg a ?_
    by_cases b : r = 10
    · exact Ev.pos b (tail true (by simp [b]))
    · refine Ev.neg b ?_
      by_cases c : r = 13
      · exact Ev.pos c (tail true (by simp [c]))
      · exact Ev.neg c (tail (r == 32) (by simp [a, b, c]))

theorem start_congr {l l' : List Int} : ∀ n, (∀ j, j < n → l.getD j 0 = l'.getD j 0) → start l n = start l' n
  | 0, _ => rfl
  | n + 1, h => by
    simp only [start]
    rw [h n (by omega), start_congr n (fun j hj => h j (by omega))]
theorem getD_take {l : List Int} {i j : Nat} (h : j < i) : (l.take i).getD j 0 = l.getD j 0 := by
  rw [List.getD_eq_getElem?_getD, List.getD_eq_getElem?_getD, List.getElem?_take_of_lt h]
theorem lastIdx_ev (l : List Int) (hl : l.length ≤ 140737488351232) : ∀ m, m ≤ l.length → Ev (fun k => bytealg_LastIndexByte.l0 k l 10 ((m : Int) - 1)) ((start l m : Int) - 1)
  | 0, _ => by
    refine Ev.step (fun k => rfl) ?_
    simp only [bytealg_LastIndexByte.l0]
    exact Ev.neg (by omega) (Ev.is (Ev.now _) (by simp [start]))
  | m + 1, h => by
    refine Ev.step (fun k => rfl) ?_
    simp only [bytealg_LastIndexByte.l0]
    refine Ev.pos (by omega) (Ev.pos (by omega) (Ev.pos (by omega) ?_))
    rw [show (((m + 1 : Nat) : Int) - 1) = (m : Int) by omega, rd_nat]
    by_cases hc : l.getD m 0 = 10
    · refine Ev.pos hc (Ev.is (Ev.now _) ?_)
      simp only [start, if_pos hc]
      omega
    · refine Ev.neg hc (Ev.is ?_ (r := (start l m : Int) - 1) (by simp only [start, if_neg hc]))
      rw [w64 (by omega) (by omega)]
      exact lastIdx_ev l hl m (by omega)
theorem start_ev {l : List Int} (ok : OkL l) {i : Nat} (hi : i ≤ l.length) : Ev (fun k => move_start.f k l (i : Int)) (start l i : Int) := by
  simp only [move_start.f]
  refine Ev.pos (by omega) (Ev.pos (by omega) ?_)
  have hs : ((l.take i).length : Int) = i := by rw [List.length_take]; omega
  refine Ev.bind (a := (start l i : Int) - 1) ?_ (Ev.is (Ev.now _) (by have := start_le l i; have := ok.size; rw [w64 (by omega) (by omega)]; omega))
  simp only [bytes_LastIndexByte.f, bytealg_LastIndexByte.f]
  refine Ev.bind (a := (start l i : Int) - 1) ?_ (Ev.now _)
  rw [show ((i : Int)).toNat = i by omega, hs, w64 (by omega) (by have := ok.size; omega)]
  have := lastIdx_ev (l.take i) (ok.take i).size i (by omega)
  rwa [start_congr (l' := l) i (fun j hj => getD_take hj)] at this
theorem idxOf_nl : ∀ l : List Int, idxOf l 10 = if tillNl l < l.length then (tillNl l : Int) else -1
  | [] => rfl
  | b :: l => by
    have ih := idxOf_nl l
    unfold tillNl at *
    simp only [idxOf, List.takeWhile_cons, List.length_cons]
    by_cases hb : b = 10
    · simp [hb]
    · have hb' : (b != 10) = true := by simp [hb]
      rw [if_neg hb, hb']
      simp only [if_true, List.length_cons]
      rw [ih]
      by_cases hl : (l.takeWhile (· != 10)).length < l.length
      · rw [if_pos hl, if_neg (by omega), if_pos (by omega)]
        omega
      · rw [if_neg hl, if_pos rfl, if_neg (by omega)]
theorem end_ev {l : List Int} (ok : OkL l) {i : Nat} (hi : i ≤ l.length) : move_end.f l (i : Int) = some (fin l i : Int) := by
  have hf := tillNl_le (l.drop i)
  have hsz := ok.size
  rw [List.length_drop] at hf
  simp only [move_end.f]
  rw [if_pos (by omega), if_pos (by omega), show ((i : Int)).toNat = i by omega]
  unfold bytes_IndexByte.f
  rw [if_pos ⟨(ok.drop i).bytes, by decide⟩]
  simp only [Option.bind_some]
  rw [idxOf_nl, List.length_drop]
  unfold fin
  by_cases h : tillNl (l.drop i) < l.length - i
  · rw [if_pos h, if_pos (by omega), w64 (by omega) (by omega)]
    rfl
  · rw [if_neg h, if_neg (by omega)]
    congr 1
    omega

theorem sevOf_take {xs : List Int} {n : Nat} (h2 : 2 ≤ n) (h4 : n ≤ 4) (hn : n ≤ xs.length) : (sevOf (xs.take n)).2 = n ↔ (sevOf xs).2 = n := by
  cases xs with
  | nil => simp at hn; omega
  | cons c ys =>
    obtain ⟨m, rfl⟩ : ∃ m, n = m + 1 := ⟨n - 1, by omega⟩
    rw [List.take_succ_cons]
    simp only [List.length_cons] at hn
    have hl : (ys.take m).length = m := by rw [List.length_take]; omega
    simp only [sevOf, hl, List.take_take]
    have e1 := sevEnd_len 128 2 (sevTail (c - 192) (ys.take (min 1 m)))
    have e2 := sevEnd_len 128 2 (sevTail (c - 192) (ys.take 1))
    have e3 := sevEnd_len 2048 3 (sevTail (c - 224) (ys.take (min 2 m)))
    have e4 := sevEnd_len 2048 3 (sevTail (c - 224) (ys.take 2))
    have e5 := sevEnd_len 65536 4 (sevTail (c - 240) (ys.take (min 3 m)))
    have e6 := sevEnd_len 65536 4 (sevTail (c - 240) (ys.take 3))
    rcases (by omega : m = 1 ∨ m = 2 ∨ m = 3) with rfl | rfl | rfl
    · rw [if_pos (by omega : 1 ≤ 1), if_pos (by omega : 1 ≤ ys.length), if_neg (by omega : ¬ 2 ≤ 1), if_neg (by omega : ¬ 3 ≤ 1)]
      simp only [Nat.min_self]
      split
      · rfl
      · split
        · split <;> simp <;> omega
        · split
          · split <;> simp <;> omega
          · simp
    · rw [if_pos (by omega : 2 ≤ 2), if_pos (by omega : 2 ≤ ys.length), if_pos (by omega : 1 ≤ 2), if_pos (by omega : 1 ≤ ys.length), if_neg (by omega : ¬ 3 ≤ 2)]
      simp only [Nat.min_self]
      split
      · simp only [show min 1 2 = 1 from rfl]
      · split
        · rfl
        · split
          · split <;> simp <;> omega
          · simp
    · rw [if_pos (by omega : 3 ≤ 3), if_pos (by omega : 3 ≤ ys.length), if_pos (by omega : 1 ≤ 3), if_pos (by omega : 1 ≤ ys.length), if_pos (by omega : 2 ≤ 3), if_pos (by omega : 2 ≤ ys.length)]
      simp only [Nat.min_self]
      split
      · simp only [show min 1 3 = 1 from rfl]
      · split
        · simp only [show min 2 3 = 2 from rfl]
        · split <;> rfl
theorem last_ev {l : List Int} (ok : OkL l) {i : Nat} (hi : i ≤ l.length) : Ev (fun k => utf_Last.f k l (i : Int)) (lastSz l i : Int) := by
  have hsz := ok.size
  simp only [utf_Last.f]
  by_cases h1 : i < 1
  · refine Ev.pos (by omega) (Ev.step (fun k => rfl) ?_)
    simp only [utf_Last.j0]
    refine Ev.pos trivial (Ev.is (Ev.now _) ?_)
    unfold lastSz
    rw [if_pos (Or.inl h1)]
    rfl
  · refine Ev.neg (by omega) (Ev.step (fun k => rfl) ?_)
    simp only [utf_Last.j0]
    refine Ev.neg (by simp; omega) ?_
    have one : ∀ n : Nat, 2 ≤ n → ¬ ((n : Int) ≤ mn 4 i) → Ev (fun k => utf_Last.l0 k l (i : Int) (n : Int)) 1 := by
      intro n hn h
      refine Ev.step (fun k => rfl) ?_
      simp only [utf_Last.l0]
      exact Ev.neg h (Ev.now _)
    have step : ∀ n : Nat, 2 ≤ n → n ≤ 4 → n ≤ i → ∀ r : Int, (¬ sev l (i - n) = n → Ev (fun k => utf_Last.l0 k l (i : Int) ((n + 1 : Nat) : Int)) r) → Ev (fun k => utf_Last.l0 k l (i : Int) (n : Int)) (if sev l (i - n) = n then (n : Int) else r) := by
      intro n hn h4 hni r hr
      refine Ev.step (fun k => rfl) ?_
      simp only [utf_Last.l0]
      rw [w64 (by omega) (by omega)]
      refine Ev.pos (by unfold mn; split <;> omega) (Ev.pos (by omega) (Ev.pos (by omega) (Ev.pos (by omega) ?_)))
      rw [show ((i : Int)).toNat = i by omega, show ((i : Int) - (n : Int)).toNat = i - n by omega, List.drop_take, show i - (i - n) = n by omega, sev_some ((ok.drop _).take _)]
      simp only [Option.bind_some]
      have hc := sev_cast l (i - n)
      have ht := sevOf_take (xs := l.drop (i - n)) hn h4 (by rw [List.length_drop]; omega)
      by_cases hs : sev l (i - n) = n
      · rw [if_pos hs]
        exact Ev.pos (ht.2 (by omega)) (Ev.now _)
      · rw [if_neg hs]
        refine Ev.neg (fun h => hs (by have := ht.1 h; omega)) ?_
        rw [w64 (by omega) (by omega)]
        exact hr hs
    have m4 : ∀ n : Int, n ≤ mn 4 (i : Int) ↔ n ≤ 4 ∧ n ≤ i := by intro n; unfold mn; split <;> omega
    have h5 := one 5 (by omega) (by rw [m4]; omega)
    have k4 : Ev (fun k => utf_Last.l0 k l (i : Int) (4 : Int)) (if 4 ≤ i ∧ sev l (i - 4) = 4 then 4 else 1 : Int) := by
      by_cases i4 : 4 ≤ i
      · have := step 4 (by omega) (by omega) i4 1 (fun _ => h5)
        simpa [i4] using this
      · have := one 4 (by omega) (by rw [m4]; omega)
        simpa [i4] using this
    have k3 : Ev (fun k => utf_Last.l0 k l (i : Int) (3 : Int)) (if 3 ≤ i ∧ sev l (i - 3) = 3 then 3 else if 4 ≤ i ∧ sev l (i - 4) = 4 then 4 else 1 : Int) := by
      by_cases i3 : 3 ≤ i
      · have := step 3 (by omega) (by omega) i3 _ (fun _ => k4)
        simpa [i3] using this
      · have := one 3 (by omega) (by rw [m4]; omega)
        simpa [i3, show ¬ 4 ≤ i by omega] using this
    have key : Ev (fun k => utf_Last.l0 k l (i : Int) (2 : Int)) (if 2 ≤ i ∧ sev l (i - 2) = 2 then 2 else if 3 ≤ i ∧ sev l (i - 3) = 3 then 3 else if 4 ≤ i ∧ sev l (i - 4) = 4 then 4 else 1 : Int) := by
      by_cases i2 : 2 ≤ i
      · have := step 2 (by omega) (by omega) i2 _ (fun _ => k3)
        simpa [i2] using this
      · have := one 2 (by omega) (by rw [m4]; omega)
        simpa [i2, show ¬ 3 ≤ i by omega, show ¬ 4 ≤ i by omega] using this
    refine Ev.is key ?_
    simp only [lastSz, if_neg (show ¬ (i < 1 ∨ l.length < i) by omega)]
    by_cases a2 : 2 ≤ i ∧ sev l (i - 2) = 2
    · simp only [if_pos a2]; rfl
    · by_cases a3 : 3 ≤ i ∧ sev l (i - 3) = 3
      · simp only [if_neg a2, if_pos a3]; rfl
      · by_cases a4 : 4 ≤ i ∧ sev l (i - 4) = 4
        · simp only [if_neg a2, if_neg a3, if_pos a4]; rfl
        · simp only [if_neg a2, if_neg a3, if_neg a4]; rfl
theorem begins_ev {l : List Int} (ok : OkL l) (i : Nat) (hi : i ≤ l.length) : Ev (fun k => utf_Begins.f k l (i : Int)) (begins l i) := by
  have hsz := ok.size
  simp only [utf_Begins.f]
  refine Ev.neg (by omega) (Ev.step (fun k => rfl) ?_)
  simp only [utf_Begins.j0]
  refine Ev.neg (by simp; omega) ?_
  have top : Ev (fun k => utf_Begins.l0 k l (i : Int) (i : Int)) true := by
    refine Ev.step (fun k => rfl) ?_
    simp only [utf_Begins.l0]
    exact Ev.neg (by omega) (Ev.now _)
  have step : ∀ (j : Nat) (r : Bool), 1 ≤ j → j ≤ i → Ev (fun k => utf_Begins.l0 k l (i : Int) ((i - (j - 1) : Nat) : Int)) r → Ev (fun k => utf_Begins.l0 k l (i : Int) ((i - j : Nat) : Int)) (decide (sev l (i - j) ≤ j) && r) := by
    intro j r h1 hj hr
    refine Ev.step (fun k => rfl) ?_
    simp only [utf_Begins.l0]
    refine Ev.pos (by omega) (Ev.pos (by omega) (Ev.pos (by omega) ?_))
    rw [show (((i - j : Nat) : Int)).toNat = i - j by omega, sev_some (ok.drop _)]
    simp only [Option.bind_some]
    have hc := sev_cast l (i - j)
    have hl := sev_len l (i - j)
    rw [← hc, w64 (by omega) (by omega)]
    by_cases hs : sev l (i - j) ≤ j
    · refine Ev.neg (by omega) (Ev.is (r := r) ?_ (by simp [hs]))
      rw [w64 (by omega) (by omega), show ((i - j : Nat) : Int) + 1 = ((i - (j - 1) : Nat) : Int) by omega]
      exact hr
    · exact Ev.pos (by omega) (Ev.is (Ev.now _) (by simp [hs]))
  have top' : Ev (fun k => utf_Begins.l0 k l (i : Int) ((i - (1 - 1) : Nat) : Int)) true := top
  have from_ : mx 0 (wrap64 (wrap64 ((i : Int) - 4) + 1)) = ((i - 3 : Nat) : Int) := by
    rw [w64 (n := (i : Int) - 4) (by omega) (by omega), w64 (by omega) (by omega)]
    unfold mx
    split <;> omega
  rw [from_]
  unfold begins
  by_cases i1 : i < 1
  · have e : i - 3 = i := by omega
    rw [e]
    exact Ev.is top (by simp [hi, i1, show i < 2 by omega, show i < 3 by omega])
  · have s1 := step 1 true (by omega) (by omega) top'
    by_cases i2 : i < 2
    · have e : i - 3 = i - 1 := by omega
      rw [e]
      exact Ev.is s1 (by simp [hi, i1, i2, show i < 3 by omega])
    · have s2 := step 2 _ (by omega) (by omega) s1
      by_cases i3 : i < 3
      · have e : i - 3 = i - 2 := by omega
        rw [e]
        refine Ev.is s2 ?_
        simp [hi, i1, i2, i3, Bool.and_comm]
      · have s3 := step 3 _ (by omega) (by omega) s2
        refine Ev.is s3 ?_
        simp [hi, i1, i2, i3, Bool.and_comm, Bool.and_assoc, Bool.and_left_comm]

theorem on_ev {l : List Int} (ok : OkL l) {i : Nat} (hi : i ≤ l.length) : Ev (fun k => move_on.f k l (i : Int)) (on l i : Int) := by
  have hsz := ok.size
  simp only [move_on.f]
  refine Ev.bind (next_ev ok i) (Ev.is (Ev.now _) ?_)
  have := on_le hi
  unfold on at *
  rw [w64 (by simp only []; omega) (by simp only []; omega)]
  simp
theorem kls_ev {l : List Int} (ok : OkL l) (i : Nat) : Ev (fun k => move_class.f k l (i : Int)) (kls l i) := by
  simp only [move_class.f]
  exact Ev.bind (next_ev ok i) (Ev.bind (class_ev _) (Ev.now _))
theorem rest_ev {l : List Int} (ok : OkL l) {i : Nat} (hi : i ≤ l.length) : Ev (fun k => move_rest.f k l (i : Int)) (rest l i : Int) := by
  have hsz := ok.size
  simp only [move_rest.f, end_ev ok hi, Option.bind_some]
  unfold rest
  by_cases h1 : i = fin l i
  · refine Ev.pos (by omega) (Ev.bind (start_ev ok hi) ?_)
    by_cases h2 : start l i < i
    · rw [if_pos ⟨h1, h2⟩]
      have := lastSz_pos (l := l) (i := i) (by omega) hi
      exact Ev.pos (by omega) (Ev.bind (last_ev ok hi) (Ev.is (Ev.now _) (by rw [w64 (by omega) (by omega)]; omega)))
    · rw [if_neg (by omega)]
      exact Ev.neg (by omega) (Ev.now _)
  · rw [if_neg (by omega)]
    exact Ev.neg (by omega) (Ev.now _)
theorem placeL_ev {l : List Int} (ok : OkL l) : ∀ i, i ≤ l.length → Ev (fun k => move_place.l0 k l (i : Int)) (placeN l i : Int)
  | 0, hi => by
    refine Ev.step (fun k => rfl) ?_
    simp only [move_place.l0]
    exact Ev.bind (begins_ev ok 0 hi) (Ev.pos (begins_zero l) (Ev.now _))
  | n + 1, hi => by
    have hsz := ok.size
    refine Ev.step (fun k => rfl) ?_
    simp only [move_place.l0]
    refine Ev.bind (begins_ev ok (n + 1) hi) ?_
    simp only [placeN]
    by_cases hb : begins l (n + 1) = true
    · rw [if_pos hb]
      exact Ev.pos hb (Ev.now _)
    · rw [if_neg hb]
      refine Ev.neg hb ?_
      rw [w64 (by omega) (by omega), show (((n + 1 : Nat) : Int) - 1) = (n : Int) by omega]
      exact placeL_ev ok n (by omega)
theorem place_ev {l : List Int} (ok : OkL l) (a : Int) : Ev (fun k => move_place.f k l a) (place l a : Int) := by
  simp only [move_place.f]
  have e : mx 0 (mn a (l.length : Int)) = ((min a.toNat l.length : Nat) : Int) := by unfold mx mn; split <;> split <;> omega
  rw [e]
  exact placeL_ev ok _ (by omega)
theorem Rest_ev {l : List Int} (ok : OkL l) (a : Int) : Ev (fun k => move_Rest.f k l a) (rest l (place l a) : Int) := by
  simp only [move_Rest.f]
  exact Ev.bind (place_ev ok a) (Ev.bind (rest_ev ok (place_le l a)) (Ev.now _))
theorem firstL_ev {l : List Int} (ok : OkL l) (tt : Nat) (htt : tt ≤ l.length) : ∀ (n i : Nat), l.length - i ≤ n → i ≤ l.length →
    Ev (fun k => move_First.l0 k l (tt : Int) (i : Int)) (((let q := whileOn (fun j => decide (j < tt) && decide (kls l j = 0)) l i; if q < tt then q else rest l tt) : Nat) : Int) := by
  intro n
  induction n with
  | zero =>
    intro i h hi
    refine Ev.step (fun k => rfl) ?_
    simp only [move_First.l0]
    rw [whileOn_neg (by omega), if_neg (by omega)]
    exact Ev.neg (by omega) (Ev.bind (rest_ev ok htt) (Ev.now _))
  | succ n ih =>
    intro i h hi
    refine Ev.step (fun k => rfl) ?_
    simp only [move_First.l0]
    by_cases hlt : i < tt
    · refine Ev.pos (by omega) (Ev.bind (kls_ev ok i) ?_)
      by_cases hk : kls l i = 0
      · have := on_gt (show i < l.length by omega)
        refine Ev.pos hk (Ev.bind (on_ev ok hi) ?_)
        rw [whileOn_pos (by omega) (by simp [hlt, hk])]
        exact ih _ (by omega) (by omega)
      · rw [whileOn_neg (by simp [hk]), if_pos hlt]
        exact Ev.neg hk (Ev.now _)
    · rw [whileOn_neg (by simp [hlt]), if_neg hlt]
      exact Ev.neg (by omega) (Ev.bind (rest_ev ok htt) (Ev.now _))
theorem First_ev {l : List Int} (ok : OkL l) (a : Int) : Ev (fun k => move_First.f k l a) (first l (place l a) : Int) := by
  simp only [move_First.f]
  refine Ev.bind (place_ev ok a) ?_
  have hp := place_le l a
  simp only [end_ev ok hp, Option.bind_some]
  refine Ev.bind (start_ev ok hp) ?_
  exact firstL_ev ok _ (fin_le hp).2 _ _ (Nat.le_refl _) (Nat.le_trans (start_le l _) hp)
theorem countL_ev {l : List Int} (ok : OkL l) : ∀ (f i : Nat) (c : Nat), l.length - i ≤ f → i ≤ l.length → c ≤ i → Ev (fun k => utf_Count.l0 k l (c : Int) (i : Int)) (((c + cnt l f i : Nat)) : Int)
  | 0, i, c, h, hi, hc => by
    refine Ev.step (fun k => rfl) ?_
    simp only [utf_Count.l0]
    exact Ev.neg (by omega) (Ev.is (Ev.now _) (by simp [cnt]))
  | f + 1, i, c, h, hi, hc => by
    have hsz := ok.size
    refine Ev.step (fun k => rfl) ?_
    simp only [utf_Count.l0]
    by_cases hlt : i < l.length
    · have hg := on_gt hlt
      refine Ev.pos (by omega) (Ev.bind (next_ev ok i) ?_)
      have e : wrap64 ((i : Int) + ((rn l i, (sz l i : Int)) : Int × Int).2) = (on l i : Int) := by
        unfold on at *
        rw [w64 (by simp only []; omega) (by simp only []; omega)]
        simp
      rw [e, w64 (by omega) (by omega), show ((c : Int) + 1) = ((c + 1 : Nat) : Int) by omega]
      refine Ev.is (countL_ev ok f (on l i) (c + 1) (by omega) (by omega) (by omega)) ?_
      simp only [cnt, if_pos hlt]
      omega
    · refine Ev.neg (by omega) (Ev.is (Ev.now _) ?_)
      simp only [cnt, if_neg hlt]
      rfl
theorem count_ev {l : List Int} (ok : OkL l) : Ev (fun k => utf_Count.f k l) (count l : Int) := by
  simp only [utf_Count.f]
  have := countL_ev ok l.length 0 0 (by omega) (by omega) (by omega)
  simpa [count] using this
theorem Column_ev {l : List Int} (ok : OkL l) (a : Int) : Ev (fun k => move_Column.f k l a) (column l (place l a) : Int) := by
  simp only [move_Column.f]
  have hp := place_le l a
  have hs := start_le l (place l a)
  refine Ev.bind (place_ev ok a) (Ev.bind (start_ev ok hp) (Ev.pos (by omega) (Ev.pos (by omega) (Ev.pos (by omega) ?_))))
  exact Ev.bind (count_ev ((ok.take _).drop _)) (Ev.now _)
theorem placeColL_ev {l : List Int} (ok : OkL l) (tt : Nat) (htt : tt ≤ l.length) : ∀ (n i : Nat) (c : Int), c ≤ 9223372036854775807 → l.length - i ≤ n → i ≤ l.length →
    Ev (fun k => move_Place.l0 k l c (i : Int) (tt : Int)) (along l tt c.toNat i : Int) := by
  intro n
  induction n with
  | zero =>
    intro i c hc h hi
    refine Ev.step (fun k => rfl) ?_
    simp only [move_Place.l0]
    have e : along l tt c.toNat i = i := by
      cases c.toNat with
      | zero => rfl
      | succ m => simp only [along]; rw [if_neg (by omega)]
    rw [e]
    by_cases h0 : c > 0
    · exact Ev.pos h0 (Ev.neg (by omega) (Ev.now _))
    · exact Ev.neg h0 (Ev.now _)
  | succ n ih =>
    intro i c hc h hi
    refine Ev.step (fun k => rfl) ?_
    simp only [move_Place.l0]
    by_cases h0 : c > 0
    · obtain ⟨m, hm⟩ : ∃ m, c.toNat = m + 1 := ⟨c.toNat - 1, by omega⟩
      rw [hm]
      simp only [along]
      refine Ev.pos h0 ?_
      by_cases hlt : i < tt
      · have := on_gt (show i < l.length by omega)
        rw [if_pos hlt]
        refine Ev.pos (by omega) (Ev.bind (on_ev ok hi) ?_)
        rw [w64 (by omega) (by omega)]
        have := ih (on l i) (c - 1) (by omega) (by omega) (by omega)
        rwa [show (c - 1).toNat = m by omega] at this
      · rw [if_neg hlt]
        exact Ev.neg (by omega) (Ev.now _)
    · rw [show c.toNat = 0 by omega]
      exact Ev.neg h0 (Ev.now _)
theorem Place_ev {l : List Int} (ok : OkL l) (a c : Int) (hc : c ≤ 9223372036854775807) : Ev (fun k => move_Place.f k l a c) (colAt l (place l a) c.toNat : Int) := by
  simp only [move_Place.f]
  have hp := place_le l a
  refine Ev.bind (place_ev ok a) (Ev.bind (start_ev ok hp) ?_)
  simp only [end_ev ok hp, Option.bind_some]
  exact placeColL_ev ok _ (fin_le hp).2 _ _ c hc (Nat.le_refl _) (Nat.le_trans (start_le l _) hp)
end Go.Proofs.Ytiibjehnlphabaa

end

section
namespace Go.Proofs.Ytiibjehnlphabaa
open Go.RowKit Go.Proofs.YtiibjehnlphabaaW.PrintWords Go.Proofs.YtiibjehnlphabaaW.PrintMore Q
set_option linter.unusedVariables false
set_option linter.unusedSimpArgs false

structure Sl (w : World) (A : Option Addr) (c : Nat) (l : List Int) : Prop where
  reads : Kd.C (Kd.int .u8) w A l.length l
  cap : l.length ≤ c
  ok : OkL l
theorem Sl.below {w w' : World} {A : Option Addr} {c : Nat} {l : List Int} (h : Sl w A c l) (hb : Below w.heap.size w w') : Sl w' A c l :=
  ⟨Kd.C_below h.reads hb, h.cap, h.ok⟩
section
variable {A : Option Addr} {c : Nat} {l : List Int} {w : World}
theorem Sl.at_ (h : Sl w A c l) {j : Nat} (hj : j < l.length) : ∃ b off, A = some ⟨b, off, none⟩ ∧ w.cell? ⟨b, off + j, none⟩ = some (.int .u8 (l.getD j 0)) := by
  obtain ⟨⟨b, off, sp⟩, rfl, hx⟩ := Kd.at_int h.reads (j : Int) (by omega) (by omega)
  rw [show ((j : Int)).toNat = j by omega, rd_nat] at hx
  have hsp : sp = none := by
    obtain ⟨ad, e, hx0⟩ := Kd.at_int h.reads 0 (by omega) (by omega)
    cases e
    simpa [Addr.add] using World.cell?_spot hx0
  subst hsp
  refine ⟨b, off, rfl, ?_⟩
  have e : (⟨b, off, none⟩ : Addr).add j = ⟨b, off + j, none⟩ := by unfold Addr.add; split <;> simp_all
  rwa [e] at hx
theorem c_next (h : Sl w A c l) (i : Nat) : Calls Try.prog 21 #[.slice A l.length c, .int .i64 (i : Int)] w fun e w' => e = .returned (.tuple #[.int .i64 (rn l i), .int .i64 (sz l i : Int)]) ∧ Below w.heap.size w w' := by
  obtain ⟨k, e⟩ := (next_ev h.ok i).rounds
  exact utf_Next.calls k A c l i _ _ w h.reads h.cap e
theorem c_last (h : Sl w A c l) {i : Nat} (hi : i ≤ l.length) : Calls Try.prog 83 #[.slice A l.length c, .int .i64 (i : Int)] w fun e w' => e = .returned (.int .i64 (lastSz l i : Int)) ∧ Below w.heap.size w w' := by
  obtain ⟨k, e⟩ := (last_ev h.ok hi).rounds
  exact utf_Last.calls k A c l i _ w h.reads h.cap e
theorem c_place (h : Sl w A c l) (a : Int) : Calls Try.prog 38 #[.slice A l.length c, .int .i64 a] w fun e w' => e = .returned (.int .i64 (place l a : Int)) ∧ Below w.heap.size w w' := by
  obtain ⟨k, e⟩ := (place_ev h.ok a).rounds
  exact move_place.calls k A c l a _ w h.reads h.cap e
theorem c_start (h : Sl w A c l) {i : Nat} (hi : i ≤ l.length) : Calls Try.prog 46 #[.slice A l.length c, .int .i64 (i : Int)] w fun e w' => e = .returned (.int .i64 (start l i : Int)) ∧ Drawn0 w w' := by
  obtain ⟨k, e⟩ := (start_ev h.ok hi).rounds
  exact move_start.calls k A c l i _ w h.reads h.cap e
theorem c_end (h : Sl w A c l) {i : Nat} (hi : i ≤ l.length) : Calls Try.prog 47 #[.slice A l.length c, .int .i64 (i : Int)] w fun e w' => e = .returned (.int .i64 (fin l i : Int)) ∧ Drawn0 w w' :=
  move_end.calls A c l i _ w h.reads h.cap (end_ev h.ok hi)
theorem c_rest (h : Sl w A c l) {i : Nat} (hi : i ≤ l.length) : Calls Try.prog 42 #[.slice A l.length c, .int .i64 (i : Int)] w fun e w' => e = .returned (.int .i64 (rest l i : Int)) ∧ Below w.heap.size w w' := by
  obtain ⟨k, e⟩ := (rest_ev h.ok hi).rounds
  exact move_rest.calls k A c l i _ w h.reads h.cap e
theorem c_on (h : Sl w A c l) {i : Nat} (hi : i ≤ l.length) : Calls Try.prog 48 #[.slice A l.length c, .int .i64 (i : Int)] w fun e w' => e = .returned (.int .i64 (on l i : Int)) ∧ Below w.heap.size w w' := by
  obtain ⟨k, e⟩ := (on_ev h.ok hi).rounds
  exact move_on.calls k A c l i _ w h.reads h.cap e
theorem c_class (h : Sl w A c l) (i : Nat) : Calls Try.prog 49 #[.slice A l.length c, .int .i64 (i : Int)] w fun e w' => e = .returned (.int .i64 (kls l i)) ∧ Below w.heap.size w w' := by
  obtain ⟨k, e⟩ := (kls_ev h.ok i).rounds
  exact move_class.calls k A c l i _ w h.reads h.cap e
theorem c_First (h : Sl w A c l) (a : Int) : Calls Try.prog 26 #[.slice A l.length c, .int .i64 a] w fun e w' => e = .returned (.int .i64 (first l (place l a) : Int)) ∧ Below w.heap.size w w' := by
  obtain ⟨k, e⟩ := (First_ev h.ok a).rounds
  exact move_First.calls k A c l a _ w h.reads h.cap e
theorem c_Column (h : Sl w A c l) (a : Int) : Calls Try.prog 23 #[.slice A l.length c, .int .i64 a] w fun e w' => e = .returned (.int .i64 (column l (place l a) : Int)) ∧ Below w.heap.size w w' := by
  obtain ⟨k, e⟩ := (Column_ev h.ok a).rounds
  exact move_Column.calls k A c l a _ w h.reads h.cap e
theorem c_Place (h : Sl w A c l) (a q : Int) (hq : q ≤ 9223372036854775807) : Calls Try.prog 33 #[.slice A l.length c, .int .i64 a, .int .i64 q] w fun e w' => e = .returned (.int .i64 (colAt l (place l a) q.toNat : Int)) ∧ Below w.heap.size w w' := by
  obtain ⟨k, e⟩ := (Place_ev h.ok a q hq).rounds
  exact move_Place.calls k A c l a q _ w h.reads h.cap e
end
theorem c_ColumnB {A : Option Addr} {c : Nat} {l : List Int} {w : World} (h : Sl w A c l) {i : Nat} (hb : begins l i = true) : Calls Try.prog 23 #[.slice A l.length c, .int .i64 (i : Int)] w fun e w' => e = .returned (.int .i64 (column l i : Int)) ∧ Below w.heap.size w w' := by
  have := c_Column h (i : Int)
  rwa [place_self hb] at this
theorem c_PlaceB {A : Option Addr} {c : Nat} {l : List Int} {w : World} (h : Sl w A c l) {i : Nat} (hb : begins l i = true) (q : Int) (hq : q ≤ 9223372036854775807) : Calls Try.prog 33 #[.slice A l.length c, .int .i64 (i : Int), .int .i64 q] w fun e w' => e = .returned (.int .i64 (colAt l i q.toNat : Int)) ∧ Below w.heap.size w w' := by
  have := c_Place h (i : Int) q hq
  rwa [place_self hb] at this
theorem c_FirstB {A : Option Addr} {c : Nat} {l : List Int} {w : World} (h : Sl w A c l) {i : Nat} (hb : begins l i = true) : Calls Try.prog 26 #[.slice A l.length c, .int .i64 (i : Int)] w fun e w' => e = .returned (.int .i64 (first l i : Int)) ∧ Below w.heap.size w w' := by
  have := c_First h (i : Int)
  rwa [place_self hb] at this
theorem must_ok (w : World) : Calls Try.prog 92 #[.bool true] w fun e w' => e = .returned (.tuple #[]) ∧ w = w' := by
  go_enter Try.func92, Try.ntmps92
  go_wp2
  go_end0
  exact ⟨rfl, rfl⟩
def thrown : List PanicEntry := [{ v := .iface 53 (.agg #[]), recovered := false }]
theorem must_no (w : World) : Calls Try.prog 92 #[.bool false] w fun e w' => e = .panicked thrown ∧ w = w' := by
  go_enter Try.func92, Try.ntmps92
  go_wp2
  exact ⟨rfl, rfl, rfl⟩

structure Wk (w : World) (g : Nat) (A : Option Addr) (c : Nat) (l : List Int) (i : Nat) (n : Nat) (op : Bool) (key : ByteArray) (A2 : Option Addr) (c2 : Nat) (a : List Int) (cn : Int) : Prop where
  f0 : w.cell? ⟨g, 0, none⟩ = some (.slice A l.length c)
  f1 : w.cell? ⟨g, 1, none⟩ = some (.int .i64 (i : Int))
  f2 : w.cell? ⟨g, 2, none⟩ = some (.int .i64 (n : Int))
  f3 : w.cell? ⟨g, 3, none⟩ = some (.bool op)
  f4 : w.cell? ⟨g, 4, none⟩ = some (.string key)
  f5 : w.cell? ⟨g, 5, none⟩ = some (.slice A2 a.length c2)
  f6 : w.cell? ⟨g, 6, none⟩ = some (.int .i64 cn)
  sl : Sl w A c l
  sa : Sl w A2 c2 a
  beg : begins l i = true
  n1 : 1 ≤ n
  n2 : (n : Int) ≤ 9223372036854775807
section
variable {w w' : World} {g : Nat} {A : Option Addr} {c : Nat} {l : List Int} {i : Nat} {n : Nat} {op : Bool} {key : ByteArray} {A2 : Option Addr} {c2 : Nat} {a : List Int} {cn : Int}
theorem Wk.lt (h : Wk w g A c l i n op key A2 c2 a cn) : g < w.heap.size := World.block_lt_of_cell? w ⟨g, 0, none⟩ h.f0
theorem Wk.below (h : Wk w g A c l i n op key A2 c2 a cn) (hb : Below w.heap.size w w') : Wk w' g A c l i n op key A2 c2 a cn :=
  ⟨pw_cell_below hb h.f0, pw_cell_below hb h.f1, pw_cell_below hb h.f2, pw_cell_below hb h.f3, pw_cell_below hb h.f4, pw_cell_below hb h.f5, pw_cell_below hb h.f6, h.sl.below hb, h.sa.below hb, h.beg, h.n1, h.n2⟩
theorem Wk.alloc (h : Wk w g A c l i n op key A2 c2 a cn) (o : Obj) : Wk (w.alloc o) g A c l i n op key A2 c2 a cn := h.below (below_alloc (Below.refl _ _) o)
end
theorem region_tail {P : Program} {id : Nat} {Q : Exit → Act → World → Prop} {a : Act} {w : World} {l : List Oper} (n : Nat) (hm : P.follows .mixedOrders = true) (hB : Region.lexTailB .any l.toArray n = true)
    (W : World) (hW : W = w.drew) (h : wpStill P l.toArray W (fun a' => wpList P l.toArray Q (l.drop n) a' W) (l.take n) a) : (Code.region id l.toArray true).wp P Q a w := by
  subst hW
  exact wp_region_still_tail n hm hB h
def Res (w : World) (b : Nat) : Prop := w.heap[b]? = some (.cells #[.int .i64 0, .bool false, .bool false] 25 (0, 0))
theorem Res.new (w : World) : Res (w.alloc (.cells #[.int .i64 0, .bool false, .bool false] 25)) w.heap.size := heap_alloc_new w _
theorem Res.lt {w : World} {b : Nat} (h : Res w b) : b < w.heap.size := by
  rcases Nat.lt_or_ge b w.heap.size with hlt | hge
  · exact hlt
  · unfold Res at h; rw [Array.getElem?_eq_none hge] at h; cases h
theorem Res.below {w w' : World} {b : Nat} (h : Res w b) (hb : Below w.heap.size w w') : Res w' b := (hb.block b h.lt).trans h
theorem Res.cell {w : World} {b : Nat} (h : Res w b) : w.cell? ⟨b, 0, none⟩ = some (.int .i64 0) ∧ w.cell? ⟨b, 1, none⟩ = some (.bool false) ∧ w.cell? ⟨b, 2, none⟩ = some (.bool false) ∧ (∀ i, w.frozen? ⟨b, i, none⟩ = false) := by
  unfold Res at h
  refine ⟨?_, ?_, ?_, fun i => ?_⟩ <;> simp [World.cell?, World.frozen?, h]
def goalV (x : Nat) (y z : Bool) : Value := .agg #[.int .i64 (x : Int), .bool y, .bool z]
def laidV (w : World) (b x : Nat) (y z : Bool) : World := ((w.setCell ⟨b, 0, none⟩ (.int .i64 (x : Int))).setCell ⟨b, 1, none⟩ (.bool y)).setCell ⟨b, 2, none⟩ (.bool z)
structure St (w0 w : World) (b : Nat) (W : Prop) : Prop where
  wk : W
  res : Res w b
  bel : Below w0.heap.size w0 w
  new : w0.heap.size ≤ b
section
variable {w0 w w1 w2 : World} {b g : Nat} {A : Option Addr} {c : Nat} {l : List Int} {i : Nat} {n : Nat} {op : Bool} {key : ByteArray} {A2 : Option Addr} {c2 : Nat} {a : List Int} {cn : Int}
theorem St.begin_ (h : Wk w g A c l i n op key A2 c2 a cn) : St w (w.alloc (.cells #[.int .i64 0, .bool false, .bool false] 25)) w.heap.size (Wk (w.alloc (.cells #[.int .i64 0, .bool false, .bool false] 25)) g A c l i n op key A2 c2 a cn) :=
  ⟨h.alloc _, Res.new w, below_alloc (Below.refl _ _) _, Nat.le_refl _⟩
theorem St.step (h : St w0 w b (Wk w g A c l i n op key A2 c2 a cn)) (h1 : Below w.heap.size w w1) (h2 : Below w1.heap.size w1 w2) : St w0 w2 b (Wk w2 g A c l i n op key A2 c2 a cn) :=
  have h3 : Below w.heap.size w w2 := h1.trans (h2.mono h1.size)
  ⟨h.wk.below h3, h.res.below h3, h.bel.trans (h3.mono h.bel.size), h.new⟩
theorem St.two (h : St w0 w b (Wk w g A c l i n op key A2 c2 a cn)) (h1 : Below w.heap.size w w1) : St w0 w1 b (Wk w1 g A c l i n op key A2 c2 a cn) :=
  ⟨h.wk.below h1, h.res.below h1, h.bel.trans (h1.mono h.bel.size), h.new⟩
theorem laid_cells (h : Res w b) (x : Nat) (y z : Bool) : (laidV w b x y z).cell? ⟨b, 0, none⟩ = some (.int .i64 (x : Int)) ∧ (laidV w b x y z).cell? ⟨b, 1, none⟩ = some (.bool y) ∧ (laidV w b x y z).cell? ⟨b, 2, none⟩ = some (.bool z) := by
  unfold Res at h
  simp [laidV, World.cell?, World.setCell, Array.getElem?_modify, h]
theorem goal_post {fn : Func} {t : Nat} {W : Prop} {tm : Array Value} {x : Nat} {y z : Bool} {G : Value} (h : St w0 w b W) (hfn : fn.results = #[.cell t 25]) (ht : tm[t]? = some (.pointer (some ⟨b, 0, none⟩))) (hG : goalV x y z = G) :
    bodyPost Try.prog fn (fun e w' => e = .returned G ∧ Below w0.heap.size w0 w') .ret { tmps := tm, defers := [] } (laidV w b x y z) := by
  obtain ⟨h0, h1, h2⟩ := laid_cells h.res x y z
  have hb : Below w0.heap.size w0 (laidV w b x y z) := ((h.bel.setCell (p := ⟨b, 0, none⟩) h.new _).setCell (p := ⟨b, 1, none⟩) h.new _).setCell (p := ⟨b, 2, none⟩) h.new _
  generalize laidV w b x y z = w' at *
  refine ⟨rfl, G, ?_, rfl, hb⟩
  have hu := Try.underlying25
  rw [← hG]
  simp [results, hfn, ht, go_sem, h0, h1, h2, goalV]
end
structure Su (w0 w : World) (W : Prop) : Prop where
  wk : W
  bel : Below w0.heap.size w0 w
section
variable {w0 w w1 w2 : World} {b g : Nat} {A : Option Addr} {c : Nat} {l : List Int} {i : Nat} {n : Nat} {op : Bool} {key : ByteArray} {A2 : Option Addr} {c2 : Nat} {a : List Int} {cn : Int}
theorem Su.begin_ (h : Wk w g A c l i n op key A2 c2 a cn) : Su w w (Wk w g A c l i n op key A2 c2 a cn) := ⟨h, Below.refl _ _⟩
theorem Su.step (h : Su w0 w (Wk w g A c l i n op key A2 c2 a cn)) (h1 : Below w.heap.size w w1) (h2 : Below w1.heap.size w1 w2) : Su w0 w2 (Wk w2 g A c l i n op key A2 c2 a cn) :=
  have h3 : Below w.heap.size w w2 := h1.trans (h2.mono h1.size)
  ⟨h.wk.below h3, h.bel.trans (h3.mono h.bel.size)⟩
theorem Su.two (h : Su w0 w (Wk w g A c l i n op key A2 c2 a cn)) (h1 : Below w.heap.size w w1) : Su w0 w1 (Wk w1 g A c l i n op key A2 c2 a cn) :=
  ⟨h.wk.below h1, h.bel.trans (h1.mono h.bel.size)⟩
end
theorem Wk.laid {w0 w : World} {b g : Nat} {A : Option Addr} {c : Nat} {l : List Int} {i : Nat} {n : Nat} {op : Bool} {key : ByteArray} {A2 : Option Addr} {c2 : Nat} {a : List Int} {cn : Int} (h : St w0 w b (Wk w g A c l i n op key A2 c2 a cn)) (hg : g < w0.heap.size) (hw0 : Wk w0 g A c l i n op key A2 c2 a cn) (x : Nat) (y z : Bool) : Su w0 (laidV w b x y z) (Wk (laidV w b x y z) g A c l i n op key A2 c2 a cn) :=
  have hb : Below w0.heap.size w0 (laidV w b x y z) := ((h.bel.setCell (p := ⟨b, 0, none⟩) h.new _).setCell (p := ⟨b, 1, none⟩) h.new _).setCell (p := ⟨b, 2, none⟩) h.new _
  ⟨hw0.below hb, hb⟩
def endI : Option Nat → Ending
  | some p => .returned (.int .i64 (p : Int))
  | none => .panicked thrown
def endG : Option Gl → Ending
  | some (x, y, z) => .returned (goalV x y z)
  | none => .panicked thrown
theorem goal_postG {w0 w : World} {b : Nat} {fn : Func} {t : Nat} {W : Prop} {tm : Array Value} {x : Nat} {y z : Bool} {o : Option Gl} (h : St w0 w b W) (hfn : fn.results = #[.cell t 25]) (ht : tm[t]? = some (.pointer (some ⟨b, 0, none⟩))) (hG : some (x, y, z) = o) :
    bodyPost Try.prog fn (fun e w' => e = endG o ∧ Below w0.heap.size w0 w') .ret { tmps := tm, defers := [] } (laidV w b x y z) := by
  subst hG
  exact goal_post h hfn ht rfl
end Go.Proofs.Ytiibjehnlphabaa

end

section
namespace Go.Proofs.Ytiibjehnlphabaa
open Go.RowKit Go.Proofs.YtiibjehnlphabaaW.PrintWords Go.Proofs.YtiibjehnlphabaaW.PrintMore Q
set_option linter.unusedVariables false
set_option linter.unusedSimpArgs false
section
variable {w : World} {g : Nat} {A : Option Addr} {c : Nat} {l : List Int} {i : Nat} {n : Nat} {op : Bool} {key : ByteArray} {A2 : Option Addr} {c2 : Nat} {a : List Int} {cn : Int}
theorem below_more (l : List Int) {m k j : Nat} (h1 : k < m) (h2 : fin l j < l.length) : below l (m - k) j = below l (m - (k + 1)) (fin l j + 1) := by
  obtain ⟨q, hq⟩ : ∃ q, m - k = q + 1 := ⟨m - k - 1, by omega⟩
  rw [hq, show m - (k + 1) = q by omega]
  simp only [below, if_pos h2]
theorem below_stop (l : List Int) {m k j : Nat} (h1 : k < m) (h2 : ¬ fin l j < l.length) : below l (m - k) j = none := by
  obtain ⟨q, hq⟩ : ∃ q, m - k = q + 1 := ⟨m - k - 1, by omega⟩
  rw [hq]
  simp only [below, if_neg h2]
theorem aboveN_more (l : List Int) {m k j : Nat} (h1 : k < m) (h2 : 0 < j) : aboveN l (m - k) j = aboveN l (m - (k + 1)) (start l (j - 1)) := by
  obtain ⟨q, hq⟩ : ∃ q, m - k = q + 1 := ⟨m - k - 1, by omega⟩
  rw [hq, show m - (k + 1) = q by omega]
  simp only [aboveN, if_pos h2]
theorem aboveN_stop (l : List Int) {m k j : Nat} (h1 : k < m) (h2 : ¬ 0 < j) : aboveN l (m - k) j = none := by
  obtain ⟨q, hq⟩ : ∃ q, m - k = q + 1 := ⟨m - k - 1, by omega⟩
  rw [hq]
  simp only [aboveN, if_neg h2]
theorem lefts_more (l : List Int) (s : Nat) {n k j : Nat} (hk : k < n) (hj : s < j) : lefts l s (n - k) j = lefts l s (n - (k + 1)) (j - lastSz l j) := by
  obtain ⟨m, hm⟩ : ∃ m, n - k = m + 1 := ⟨n - k - 1, by omega⟩
  rw [hm, show n - (k + 1) = m by omega]
  simp only [lefts, if_pos hj]
theorem lefts_end (l : List Int) (s : Nat) {m j : Nat} (h : m = 0 ∨ ¬ s < j) : lefts l s m j = j := by
  cases m with
  | zero => rfl
  | succ m => simp only [lefts]; rw [if_neg (by omega)]
theorem along_more (l : List Int) (s : Nat) {n k j : Nat} (hk : k < n) (hj : j < s) : along l s (n - k) j = along l s (n - (k + 1)) (on l j) := by
  obtain ⟨m, hm⟩ : ∃ m, n - k = m + 1 := ⟨n - k - 1, by omega⟩
  rw [hm, show n - (k + 1) = m by omega]
  simp only [along, if_pos hj]
theorem along_end (l : List Int) (s : Nat) {m j : Nat} (h : m = 0 ∨ ¬ j < s) : along l s m j = j := by
  cases m with
  | zero => rfl
  | succ m => simp only [along]; rw [if_neg (by omega)]

set_option maxHeartbeats 400000 in
set_option maxRecDepth 100000 in
theorem below_calls (hW : Wk w g A c l i n op key A2 c2 a cn) (m : Nat) (hm : (m : Int) ≤ 9223372036854775807) (o : Option Nat) (h : below l m i = o) :
    Calls Try.prog 94 #[.pointer (some ⟨g, 0, none⟩), .int .i64 (m : Int)] w fun e w' => e = endI o ∧ Below w.heap.size w w' := by
  have HO := Aside0.mk h
  clear h
  have HS := Aside0.mk (Su.begin_ hW)
  have hn1 := hW.n1
  have hn2 := hW.n2
  have hi := begins_le hW.beg
  have hsz := hW.sl.ok.size
  clear hW
  obtain ⟨f0, f1, f2, f3, f4, f5, f6, _, _, _, _, _⟩ := HS.out.wk
  go_enter Try.func94, Try.ntmps94
  go_wp2_with fail
  go_loopw [5, 11] (fun v5 v11 wr => ∃ (k j : Nat), v11 = .int .i64 k ∧ v5 = .int .i64 j ∧ k ≤ m ∧ j ≤ l.length ∧ Aside0 (below l (m - k) j = o) ∧ Aside0 (Su w wr (Wk wr g A c l i n op key A2 c2 a cn))) (fun _ v11 _ => m - (intOf v11).toNat)
  case atStart => exact ⟨0, i, rfl, rfl, by omega, hi, HO, HS⟩
  case round =>
    clear f0 f1 f2 f3 f4 f5 f6 HS HO
    obtain ⟨k, j, rfl, rfl, hk, hj, HO, HS⟩ := hrel
    obtain ⟨f0, f1, f2, f3, f4, f5, f6, _, _, _, _, _⟩ := HS.out.wk
    have hf := fin_le hj
    by_cases h1 : k < m
    · have t1 : decide ((k : Int) < (m : Int)) = true := decide_eq_true (by omega)
      have t1' : decide (k < m) = true := decide_eq_true (by omega)
      go_wp2_with fail
      refine (c_end (HS.out.two (by first | exact Below.refl _ _ | exact below_drew (Below.refl _ _))).wk.sl hj).mono ?_
      rintro e w1 ⟨rfl, hd⟩
      have HT := Aside0.mk (HS.out.step (by first | exact Below.refl _ _ | exact below_drew (Below.refl _ _)) hd.below)
      clear hd f0 f1 f2 f3 f4 f5 f6 HS t1 t1'
      have HS := HT
      clear HT
      obtain ⟨f0, f1, f2, f3, f4, f5, f6, _, _, _, _, _⟩ := HS.out.wk
      by_cases h2 : fin l j < l.length
      · have t2 : decide ((fin l j : Int) < (l.length : Int)) = true := decide_eq_true (by omega)
        have t2' : decide (fin l j < l.length) = true := decide_eq_true (by omega)
        go_wp2_with (first | (go_at_call 92; refine (must_ok _).mono ?_; rintro e wm ⟨rfl, rfl⟩) | (go_at_call 92; refine (must_no _).mono ?_; rintro e wm ⟨rfl, rfl⟩))
        go_roundw
        case rel => exact ⟨k + 1, fin l j + 1, by go_num, by go_num, by omega, by omega, ⟨by rw [← HO.out]; exact (below_more l h1 h2).symm⟩, HS⟩
        case measure => simp [intOf]; omega
      · have t2 : decide ((fin l j : Int) < (l.length : Int)) = false := decide_eq_false (by omega)
        have t2' : decide (fin l j < l.length) = false := decide_eq_false (by omega)
        go_wp2_with (first | (go_at_call 92; refine (must_ok _).mono ?_; rintro e wm ⟨rfl, rfl⟩) | (go_at_call 92; refine (must_no _).mono ?_; rintro e wm ⟨rfl, rfl⟩))
        obtain rfl : none = o := by rw [← HO.out]; exact (below_stop l h1 h2).symm
        exact ⟨rfl, rfl, HS.out.bel⟩
    · have t1 : decide ((k : Int) < (m : Int)) = false := decide_eq_false (by omega)
      have t1' : decide (k < m) = false := decide_eq_false (by omega)
      go_wp2_with fail
      refine (c_start (HS.out.two (by first | exact Below.refl _ _ | exact below_drew (Below.refl _ _))).wk.sl hj).mono ?_
      rintro e w2 ⟨rfl, hd⟩
      have HT := Aside0.mk (HS.out.step (by first | exact Below.refl _ _ | exact below_drew (Below.refl _ _)) hd.below)
      clear hd f0 f1 f2 f3 f4 f5 f6 HS t1 t1'
      have HS := HT
      clear HT
      obtain ⟨f0, f1, f2, f3, f4, f5, f6, _, _, _, _, _⟩ := HS.out.wk
      go_wp2_with fail
      go_ret
      exact ⟨by rw [← HO.out, show m - k = 0 by omega]; rfl, HS.out.bel⟩

set_option maxHeartbeats 400000 in
set_option maxRecDepth 100000 in
theorem above_calls (hW : Wk w g A c l i n op key A2 c2 a cn) (m : Nat) (hm : (m : Int) ≤ 9223372036854775807) (o : Option Nat) (h : above l m i = o) :
    Calls Try.prog 95 #[.pointer (some ⟨g, 0, none⟩), .int .i64 (m : Int)] w fun e w' => e = endI o ∧ Below w.heap.size w w' := by
  have HO := Aside0.mk h
  clear h
  have HS := Aside0.mk (Su.begin_ hW)
  have hn1 := hW.n1
  have hn2 := hW.n2
  have hi := begins_le hW.beg
  have hsz := hW.sl.ok.size
  clear hW
  obtain ⟨f0, f1, f2, f3, f4, f5, f6, _, _, _, _, _⟩ := HS.out.wk
  go_enter Try.func95, Try.ntmps95
  go_wp2_with fail
  refine region_tail 8 (by kernel_rfl) (by kernel_rfl) _ rfl ?_
  simp only [List.take_succ_cons, List.take_zero, List.drop_succ_cons, List.drop_zero]
  repeat still_step
  refine wpStill_nil ?_
  go_wp2_with fail
  refine (c_start (HS.out.two (by first | exact Below.refl _ _ | exact below_drew (Below.refl _ _))).wk.sl hi).mono ?_
  rintro e w3 ⟨rfl, hd⟩
  have HT := Aside0.mk (HS.out.step (by first | exact Below.refl _ _ | exact below_drew (Below.refl _ _)) hd.below)
  clear hd f0 f1 f2 f3 f4 f5 f6 HS
  have HS := HT
  clear HT
  obtain ⟨f0, f1, f2, f3, f4, f5, f6, _, _, _, _, _⟩ := HS.out.wk
  have hsl := start_le l i
  go_wp2_with fail
  go_loopw [5, 16] (fun v5 v16 wr => ∃ (k j : Nat), v16 = .int .i64 k ∧ v5 = .int .i64 j ∧ k ≤ m ∧ j ≤ l.length ∧ Aside0 (aboveN l (m - k) j = o) ∧ Aside0 (Su w wr (Wk wr g A c l i n op key A2 c2 a cn))) (fun _ v16 _ => m - (intOf v16).toNat)
  case atStart => exact ⟨0, start l i, rfl, rfl, by omega, by omega, HO, HS⟩
  case round =>
    clear f0 f1 f2 f3 f4 f5 f6 HS HO
    obtain ⟨k, j, rfl, rfl, hk, hj, HO, HS⟩ := hrel
    obtain ⟨f0, f1, f2, f3, f4, f5, f6, _, _, _, _, _⟩ := HS.out.wk
    by_cases h1 : k < m
    · have t1 : decide ((k : Int) < (m : Int)) = true := decide_eq_true (by omega)
      have t1' : decide (k < m) = true := decide_eq_true (by omega)
      by_cases h2 : 0 < j
      · have t2 : decide ((0 : Int) < (j : Int)) = true := decide_eq_true (by omega)
        have t2' : decide (0 < j) = true := decide_eq_true h2
        go_wp2_with (first | (go_at_call 92; refine (must_ok _).mono ?_; rintro e wm ⟨rfl, rfl⟩) | (go_at_call 92; refine (must_no _).mono ?_; rintro e wm ⟨rfl, rfl⟩))
        have e1 : ((j : Int) - 1) = ((j - 1 : Nat) : Int) := by omega
        rw [e1]
        refine (c_start (HS.out.two (by first | exact Below.refl _ _ | exact below_drew (Below.refl _ _))).wk.sl (show j - 1 ≤ l.length by omega)).mono ?_
        rintro e w4 ⟨rfl, hd⟩
        have HT := Aside0.mk (HS.out.step (by first | exact Below.refl _ _ | exact below_drew (Below.refl _ _)) hd.below)
        clear hd f0 f1 f2 f3 f4 f5 f6 HS t1 t1' t2 t2' e1
        have HS := HT
        clear HT
        obtain ⟨f0, f1, f2, f3, f4, f5, f6, _, _, _, _, _⟩ := HS.out.wk
        have hs1 := start_le l (j - 1)
        go_wp2_with fail
        go_roundw
        case rel => exact ⟨k + 1, start l (j - 1), by go_num, by go_num, by omega, by omega, ⟨by rw [← HO.out]; exact (aboveN_more l h1 h2).symm⟩, HS⟩
        case measure => simp [intOf]; omega
      · have t2 : decide ((0 : Int) < (j : Int)) = false := decide_eq_false (by omega)
        have t2' : decide (0 < j) = false := decide_eq_false h2
        go_wp2_with (first | (go_at_call 92; refine (must_ok _).mono ?_; rintro e wm ⟨rfl, rfl⟩) | (go_at_call 92; refine (must_no _).mono ?_; rintro e wm ⟨rfl, rfl⟩))
        obtain rfl : none = o := by rw [← HO.out]; exact (aboveN_stop l h1 h2).symm
        exact ⟨rfl, rfl, HS.out.bel⟩
    · have t1 : decide ((k : Int) < (m : Int)) = false := decide_eq_false (by omega)
      have t1' : decide (k < m) = false := decide_eq_false (by omega)
      go_wp2_with fail
      go_ret
      exact ⟨by rw [← HO.out, show m - k = 0 by omega]; rfl, HS.out.bel⟩

set_option maxHeartbeats 400000 in
set_option maxRecDepth 100000 in
theorem column_calls (hW : Wk w g A c l i n op key A2 c2 a cn) (p : Nat) (hp : begins l p = true) :
    Calls Try.prog 93 #[.pointer (some ⟨g, 0, none⟩), .int .i64 (p : Int)] w fun e w' => e = .returned (goalV (rest l (colAt l p (column l i))) false true) ∧ Below w.heap.size w w' := by
  have hb := Aside0.mk hp
  have hib := Aside0.mk hW.beg
  have HW0 := Aside0.mk hW
  have hg := Aside0.mk hW.lt
  have hcol := column_le l (begins_le hib.out)
  have hc := colAt_le (col := column l i) (begins_le hb.out)
  clear hp
  have HS := Aside0.mk (St.begin_ hW)
  have hn1 := hW.n1
  have hn2 := hW.n2
  have hi := begins_le hW.beg
  have hsz := hW.sl.ok.size
  clear hW
  obtain ⟨f0, f1, f2, f3, f4, f5, f6, _, _, _, _, _⟩ := HS.out.wk
  go_enter Try.func93, Try.ntmps93
  go_wp2_with fail
  clear f0 f1 f2 f3 f4 f5 f6
  go_region_held3 (fun w' => w'.cell? ⟨g, 0, none⟩ = some (.slice A l.length c) ∧ w'.cell? ⟨g, 1, none⟩ = some (.int .i64 (i : Int))) (first | exact ⟨HS.out.wk.f0, HS.out.wk.f1⟩ | exact ⟨(HS.out.two (below_drew (Below.refl _ _))).wk.f0, (HS.out.two (below_drew (Below.refl _ _))).wk.f1⟩ | exact ⟨(Wk.laid HS.out hg.out HW0.out _ _ _).wk.f0, (Wk.laid HS.out hg.out HW0.out _ _ _).wk.f1⟩)
    (first | (go_at_call 23; refine (c_ColumnB (HS.out.two (by first | exact Below.refl _ _ | exact below_drew (Below.refl _ _))).wk.sl hib.out).mono ?_; rintro e w5 ⟨rfl, hd⟩; have HT := Aside0.mk (HS.out.step (by first | exact Below.refl _ _ | exact below_drew (Below.refl _ _)) hd); clear hd HS; have HS := HT; clear HT) | (go_at_call 33; refine (c_PlaceB (HS.out.two (by first | exact Below.refl _ _ | exact below_drew (Below.refl _ _))).wk.sl hb.out (column l i) (by omega)).mono ?_; rintro e w6 ⟨rfl, hd⟩; have HT := Aside0.mk (HS.out.step (by first | exact Below.refl _ _ | exact below_drew (Below.refl _ _)) hd); clear hd HS; have HS := HT; clear HT) | (go_at_call 42; refine (c_rest (HS.out.two (by first | exact Below.refl _ _ | exact below_drew (Below.refl _ _))).wk.sl hc.2).mono ?_; rintro e w7 ⟨rfl, hd⟩; have HT := Aside0.mk (HS.out.step (by first | exact Below.refl _ _ | exact below_drew (Below.refl _ _)) hd); clear hd HS; have HS := HT; clear HT; obtain ⟨r0, r1, r2, z⟩ := HS.out.res.cell; have z0 := z 0; have z1 := z 1; have z2 := z 2; clear z))
  go_wp2_with fail
  exact goal_post HS.out rfl rfl rfl

set_option maxHeartbeats 400000 in
set_option maxRecDepth 100000 in
theorem left_calls (hW : Wk w g A c l i n op key A2 c2 a cn) (o : Option Gl) (h : (if start l i < i then some (plain_ (lefts l (start l i) n i)) else none) = o) :
    Calls Try.prog 56 #[.pointer (some ⟨g, 0, none⟩)] w fun e w' => e = endG o ∧ Below w.heap.size w w' := by
  have HO := Aside0.mk h
  clear h
  have HS := Aside0.mk (St.begin_ hW)
  have hn1 := hW.n1
  have hn2 := hW.n2
  have hi := begins_le hW.beg
  have hsz := hW.sl.ok.size
  clear hW
  obtain ⟨f0, f1, f2, f3, f4, f5, f6, _, _, _, _, _⟩ := HS.out.wk
  go_enter Try.func56, Try.ntmps56
  go_wp2_with fail
  refine region_tail 8 (by kernel_rfl) (by kernel_rfl) _ rfl ?_
  simp only [List.take_succ_cons, List.take_zero, List.drop_succ_cons, List.drop_zero]
  repeat still_step
  refine wpStill_nil ?_
  go_wp2_with fail
  refine (c_start (HS.out.two (by first | exact Below.refl _ _ | exact below_drew (Below.refl _ _))).wk.sl hi).mono ?_
  rintro e w8 ⟨rfl, hd⟩
  have HT := Aside0.mk (HS.out.step (by first | exact Below.refl _ _ | exact below_drew (Below.refl _ _)) hd.below)
  clear hd f0 f1 f2 f3 f4 f5 f6 HS
  have HS := HT
  clear HT
  obtain ⟨f0, f1, f2, f3, f4, f5, f6, _, _, _, _, _⟩ := HS.out.wk
  by_cases hs : start l i < i
  · have t1 : decide ((start l i : Int) < (i : Int)) = true := decide_eq_true (by omega)
    have t1' : decide (start l i < i) = true := decide_eq_true (by omega)
    go_wp2_with (first | (go_at_call 92; refine (must_ok _).mono ?_; rintro e wm ⟨rfl, rfl⟩) | (go_at_call 92; refine (must_no _).mono ?_; rintro e wm ⟨rfl, rfl⟩))
    clear t1 t1'
    go_loopw [4, 5] (fun v4 v5 wr => ∃ (k j : Nat), v5 = .int .i64 k ∧ v4 = .int .i64 j ∧ k ≤ n ∧ j ≤ l.length ∧ Aside0 (lefts l (start l i) (n - k) j = lefts l (start l i) n i) ∧ Aside0 (St w wr w.heap.size (Wk wr g A c l i n op key A2 c2 a cn))) (fun _ v5 _ => n - (intOf v5).toNat)
    case atStart => exact ⟨0, i, rfl, rfl, by omega, hi, ⟨rfl⟩, HS⟩
    case round =>
      clear f0 f1 f2 f3 f4 f5 f6 HS
      obtain ⟨k, j, rfl, rfl, hk, hj, HL, HS⟩ := hrel
      obtain ⟨f0, f1, f2, f3, f4, f5, f6, _, _, _, _, _⟩ := HS.out.wk
      by_cases h1 : k < n
      · have t1 : decide ((k : Int) < (n : Int)) = true := decide_eq_true (by omega)
        have t1' : decide (k < n) = true := decide_eq_true (by omega)
        by_cases h2 : start l i < j
        · have t2 : decide ((start l i : Int) < (j : Int)) = true := decide_eq_true (by omega)
          have t2' : decide (start l i < j) = true := decide_eq_true (by omega)
          have hz := lastSz_pos (l := l) (i := j) (by omega) hj
          go_wp2_with fail
          refine (c_last (HS.out.two (by first | exact Below.refl _ _ | exact below_drew (Below.refl _ _))).wk.sl hj).mono ?_
          rintro e w9 ⟨rfl, hd⟩
          have HT := Aside0.mk (HS.out.step (by first | exact Below.refl _ _ | exact below_drew (Below.refl _ _)) hd)
          clear hd f0 f1 f2 f3 f4 f5 f6 HS t1 t1' t2 t2'
          have HS := HT
          clear HT
          obtain ⟨f0, f1, f2, f3, f4, f5, f6, _, _, _, _, _⟩ := HS.out.wk
          go_wp2_with fail
          go_roundw
          case rel => exact ⟨k + 1, j - lastSz l j, by go_num, by go_num, by omega, by omega, ⟨by rw [← HL.out]; exact (lefts_more l _ (by omega) h2).symm⟩, HS⟩
          case measure => simp [intOf]; omega
        · have t2 : decide ((start l i : Int) < (j : Int)) = false := decide_eq_false (by omega)
          have t2' : decide (start l i < j) = false := decide_eq_false (by omega)
          obtain ⟨r0, r1, r2, z⟩ := HS.out.res.cell
          have z0 := z 0
          have z1 := z 1
          have z2 := z 2
          clear z
          go_wp2_with fail
          exact goal_postG HS.out rfl rfl (by rw [← HO.out, if_pos hs, ← HL.out, lefts_end l _ (by omega)]; rfl)
      · have t1 : decide ((k : Int) < (n : Int)) = false := decide_eq_false (by omega)
        have t1' : decide (k < n) = false := decide_eq_false (by omega)
        obtain ⟨r0, r1, r2, z⟩ := HS.out.res.cell
        have z0 := z 0
        have z1 := z 1
        have z2 := z 2
        clear z
        go_wp2_with fail
        exact goal_postG HS.out rfl rfl (by rw [← HO.out, if_pos hs, ← HL.out, lefts_end l _ (by omega)]; rfl)
  · have t1 : decide ((start l i : Int) < (i : Int)) = false := decide_eq_false (by omega)
    have t1' : decide (start l i < i) = false := decide_eq_false (by omega)
    go_wp2_with (first | (go_at_call 92; refine (must_ok _).mono ?_; rintro e wm ⟨rfl, rfl⟩) | (go_at_call 92; refine (must_no _).mono ?_; rintro e wm ⟨rfl, rfl⟩))
    obtain rfl : none = o := by rw [← HO.out, if_neg hs]
    exact ⟨rfl, rfl, HS.out.bel⟩

def lim (l : List Int) (i : Nat) (op : Bool) : Nat := if op = true then fin l i else rest l (fin l i)

set_option maxHeartbeats 800000 in
set_option maxRecDepth 100000 in
theorem right_calls (hW : Wk w g A c l i n op key A2 c2 a cn) (o : Option Gl) (h : (if i < lim l i op then some (plain_ (along l (lim l i op) n i)) else none) = o) :
    Calls Try.prog 57 #[.pointer (some ⟨g, 0, none⟩)] w fun e w' => e = endG o ∧ Below w.heap.size w w' := by
  have HO := Aside0.mk h
  clear h
  have hf := fin_le (begins_le hW.beg)
  have hr := rest_le hf.2
  have HS := Aside0.mk (St.begin_ hW)
  have hn1 := hW.n1
  have hn2 := hW.n2
  have hi := begins_le hW.beg
  have hsz := hW.sl.ok.size
  clear hW
  obtain ⟨f0, f1, f2, f3, f4, f5, f6, _, _, _, _, _⟩ := HS.out.wk
  go_enter Try.func57, Try.ntmps57
  go_wp2_with fail
  refine region_tail 8 (by kernel_rfl) (by kernel_rfl) _ rfl ?_
  simp only [List.take_succ_cons, List.take_zero, List.drop_succ_cons, List.drop_zero]
  repeat still_step
  refine wpStill_nil ?_
  go_wp2_with fail
  refine (c_end (HS.out.two (by first | exact Below.refl _ _ | exact below_drew (Below.refl _ _))).wk.sl hi).mono ?_
  rintro e w10 ⟨rfl, hd⟩
  have HT := Aside0.mk (HS.out.step (by first | exact Below.refl _ _ | exact below_drew (Below.refl _ _)) hd.below)
  clear hd f0 f1 f2 f3 f4 f5 f6 HS
  have HS := HT
  clear HT
  obtain ⟨f0, f1, f2, f3, f4, f5, f6, _, _, _, _, _⟩ := HS.out.wk
  cases op with
  | true =>
    have hlt : lim l i true ≤ l.length := hf.2
    have Hlim := Aside0.mk (show lim l i true = fin l i from rfl)
    rw [← Hlim.out]
    by_cases hs : i < lim l i true
    · have t1 : decide ((i : Int) < (lim l i true : Int)) = true := decide_eq_true (by omega)
      have t1' : decide (i < lim l i true) = true := decide_eq_true (by omega)
      go_wp2_with (first | (go_at_call 92; refine (must_ok _).mono ?_; rintro e wm ⟨rfl, rfl⟩) | (go_at_call 92; refine (must_no _).mono ?_; rintro e wm ⟨rfl, rfl⟩))
      clear t1 t1'
      go_loopw [4, 5] (fun v4 v5 wr => ∃ (k j : Nat), v5 = .int .i64 k ∧ v4 = .int .i64 j ∧ k ≤ n ∧ j ≤ l.length ∧ Aside0 (along l (lim l i true) (n - k) j = along l (lim l i true) n i) ∧ Aside0 (St w wr w.heap.size (Wk wr g A c l i n true key A2 c2 a cn))) (fun _ v5 _ => n - (intOf v5).toNat)
      case atStart => exact ⟨0, i, rfl, rfl, by omega, hi, ⟨rfl⟩, HS⟩
      case round =>
        clear f0 f1 f2 f3 f4 f5 f6 HS
        obtain ⟨k, j, rfl, rfl, hk, hj, HL, HS⟩ := hrel
        obtain ⟨f0, f1, f2, f3, f4, f5, f6, _, _, _, _, _⟩ := HS.out.wk
        by_cases h1 : k < n
        · have t1 : decide ((k : Int) < (n : Int)) = true := decide_eq_true (by omega)
          have t1' : decide (k < n) = true := decide_eq_true (by omega)
          by_cases h2 : j < lim l i true
          · have t2 : decide ((j : Int) < (lim l i true : Int)) = true := decide_eq_true (by omega)
            have t2' : decide (j < lim l i true) = true := decide_eq_true (by omega)
            have hz := on_gt (l := l) (i := j) (by omega)
            go_wp2_with fail
            refine (c_on (HS.out.two (by first | exact Below.refl _ _ | exact below_drew (Below.refl _ _))).wk.sl hj).mono ?_
            rintro e w11 ⟨rfl, hd⟩
            have HT := Aside0.mk (HS.out.step (by first | exact Below.refl _ _ | exact below_drew (Below.refl _ _)) hd)
            clear hd f0 f1 f2 f3 f4 f5 f6 HS t1 t1' t2 t2'
            have HS := HT
            clear HT
            obtain ⟨f0, f1, f2, f3, f4, f5, f6, _, _, _, _, _⟩ := HS.out.wk
            go_wp2_with fail
            go_roundw
            case rel => exact ⟨k + 1, on l j, by go_num, by go_num, by omega, by omega, ⟨by rw [← HL.out]; exact (along_more l _ (by omega) h2).symm⟩, HS⟩
            case measure => simp [intOf]; omega
          · have t2 : decide ((j : Int) < (lim l i true : Int)) = false := decide_eq_false (by omega)
            have t2' : decide (j < lim l i true) = false := decide_eq_false (by omega)
            obtain ⟨r0, r1, r2, z⟩ := HS.out.res.cell
            have z0 := z 0
            have z1 := z 1
            have z2 := z 2
            clear z
            go_wp2_with fail
            exact goal_postG HS.out rfl rfl (by rw [← HO.out, if_pos hs, ← HL.out, along_end l _ (by omega)]; rfl)
        · have t1 : decide ((k : Int) < (n : Int)) = false := decide_eq_false (by omega)
          have t1' : decide (k < n) = false := decide_eq_false (by omega)
          obtain ⟨r0, r1, r2, z⟩ := HS.out.res.cell
          have z0 := z 0
          have z1 := z 1
          have z2 := z 2
          clear z
          go_wp2_with fail
          exact goal_postG HS.out rfl rfl (by rw [← HO.out, if_pos hs, ← HL.out, along_end l _ (by omega)]; rfl)
    · have t1 : decide ((i : Int) < (lim l i true : Int)) = false := decide_eq_false (by omega)
      have t1' : decide (i < lim l i true) = false := decide_eq_false (by omega)
      go_wp2_with (first | (go_at_call 92; refine (must_ok _).mono ?_; rintro e wm ⟨rfl, rfl⟩) | (go_at_call 92; refine (must_no _).mono ?_; rintro e wm ⟨rfl, rfl⟩))
      obtain rfl : none = o := by rw [← HO.out, if_neg hs]
      exact ⟨rfl, rfl, HS.out.bel⟩
  | false =>
    have Hlim := Aside0.mk (show lim l i false = rest l (fin l i) from rfl)
    go_wp2_with fail
    refine (c_rest (HS.out.two (by first | exact Below.refl _ _ | exact below_drew (Below.refl _ _))).wk.sl hf.2).mono ?_
    rintro e w12 ⟨rfl, hd⟩
    have HT := Aside0.mk (HS.out.step (by first | exact Below.refl _ _ | exact below_drew (Below.refl _ _)) hd)
    clear hd f0 f1 f2 f3 f4 f5 f6 HS
    have HS := HT
    clear HT
    obtain ⟨f0, f1, f2, f3, f4, f5, f6, _, _, _, _, _⟩ := HS.out.wk
    rw [← Hlim.out]
    have hlt : lim l i false ≤ l.length := by rw [Hlim.out]; omega
    by_cases hs : i < lim l i false
    · have t1 : decide ((i : Int) < (lim l i false : Int)) = true := decide_eq_true (by omega)
      have t1' : decide (i < lim l i false) = true := decide_eq_true (by omega)
      go_wp2_with (first | (go_at_call 92; refine (must_ok _).mono ?_; rintro e wm ⟨rfl, rfl⟩) | (go_at_call 92; refine (must_no _).mono ?_; rintro e wm ⟨rfl, rfl⟩))
      clear t1 t1'
      go_loopw [4, 5] (fun v4 v5 wr => ∃ (k j : Nat), v5 = .int .i64 k ∧ v4 = .int .i64 j ∧ k ≤ n ∧ j ≤ l.length ∧ Aside0 (along l (lim l i false) (n - k) j = along l (lim l i false) n i) ∧ Aside0 (St w wr w.heap.size (Wk wr g A c l i n false key A2 c2 a cn))) (fun _ v5 _ => n - (intOf v5).toNat)
      case atStart => exact ⟨0, i, rfl, rfl, by omega, hi, ⟨rfl⟩, HS⟩
      case round =>
        clear f0 f1 f2 f3 f4 f5 f6 HS
        obtain ⟨k, j, rfl, rfl, hk, hj, HL, HS⟩ := hrel
        obtain ⟨f0, f1, f2, f3, f4, f5, f6, _, _, _, _, _⟩ := HS.out.wk
        by_cases h1 : k < n
        · have t1 : decide ((k : Int) < (n : Int)) = true := decide_eq_true (by omega)
          have t1' : decide (k < n) = true := decide_eq_true (by omega)
          by_cases h2 : j < lim l i false
          · have t2 : decide ((j : Int) < (lim l i false : Int)) = true := decide_eq_true (by omega)
            have t2' : decide (j < lim l i false) = true := decide_eq_true (by omega)
            have hz := on_gt (l := l) (i := j) (by omega)
            go_wp2_with fail
            refine (c_on (HS.out.two (by first | exact Below.refl _ _ | exact below_drew (Below.refl _ _))).wk.sl hj).mono ?_
            rintro e w13 ⟨rfl, hd⟩
            have HT := Aside0.mk (HS.out.step (by first | exact Below.refl _ _ | exact below_drew (Below.refl _ _)) hd)
            clear hd f0 f1 f2 f3 f4 f5 f6 HS t1 t1' t2 t2'
            have HS := HT
            clear HT
            obtain ⟨f0, f1, f2, f3, f4, f5, f6, _, _, _, _, _⟩ := HS.out.wk
            go_wp2_with fail
            go_roundw
            case rel => exact ⟨k + 1, on l j, by go_num, by go_num, by omega, by omega, ⟨by rw [← HL.out]; exact (along_more l _ (by omega) h2).symm⟩, HS⟩
            case measure => simp [intOf]; omega
          · have t2 : decide ((j : Int) < (lim l i false : Int)) = false := decide_eq_false (by omega)
            have t2' : decide (j < lim l i false) = false := decide_eq_false (by omega)
            obtain ⟨r0, r1, r2, z⟩ := HS.out.res.cell
            have z0 := z 0
            have z1 := z 1
            have z2 := z 2
            clear z
            go_wp2_with fail
            exact goal_postG HS.out rfl rfl (by rw [← HO.out, if_pos hs, ← HL.out, along_end l _ (by omega)]; rfl)
        · have t1 : decide ((k : Int) < (n : Int)) = false := decide_eq_false (by omega)
          have t1' : decide (k < n) = false := decide_eq_false (by omega)
          obtain ⟨r0, r1, r2, z⟩ := HS.out.res.cell
          have z0 := z 0
          have z1 := z 1
          have z2 := z 2
          clear z
          go_wp2_with fail
          exact goal_postG HS.out rfl rfl (by rw [← HO.out, if_pos hs, ← HL.out, along_end l _ (by omega)]; rfl)
    · have t1 : decide ((i : Int) < (lim l i false : Int)) = false := decide_eq_false (by omega)
      have t1' : decide (i < lim l i false) = false := decide_eq_false (by omega)
      go_wp2_with (first | (go_at_call 92; refine (must_ok _).mono ?_; rintro e wm ⟨rfl, rfl⟩) | (go_at_call 92; refine (must_no _).mono ?_; rintro e wm ⟨rfl, rfl⟩))
      obtain rfl : none = o := by rw [← HO.out, if_neg hs]
      exact ⟨rfl, rfl, HS.out.bel⟩
end
end Go.Proofs.Ytiibjehnlphabaa

end

section
namespace Go.Proofs.Ytiibjehnlphabaa
open Go.RowKit Go.Proofs.YtiibjehnlphabaaW.PrintWords Go.Proofs.YtiibjehnlphabaaW.PrintMore Q
set_option linter.unusedVariables false
set_option linter.unusedSimpArgs false
section
variable {w : World} {g : Nat} {A : Option Addr} {c : Nat} {l : List Int} {i : Nat} {n : Nat} {op : Bool} {key : ByteArray} {A2 : Option Addr} {c2 : Nat} {a : List Int} {cn : Int}
set_option maxHeartbeats 400000 in
set_option maxRecDepth 100000 in
theorem down_calls (hW : Wk w g A c l i n op key A2 c2 a cn) (o : Option Gl) (hb : ∀ p, below l n i = some p → begins l p = true) (h : ((below l n i).map fun p => byLn (rest l (colAt l p (column l i)))) = o) :
    Calls Try.prog 58 #[.pointer (some ⟨g, 0, none⟩)] w fun e w' => e = endG o ∧ Below w.heap.size w w' := by
  have HO := Aside0.mk h
  have HB := Aside0.mk hb
  clear h hb
  have HS := Aside0.mk (St.begin_ hW)
  have hn1 := hW.n1
  have hn2 := hW.n2
  have hi := begins_le hW.beg
  have hsz := hW.sl.ok.size
  clear hW
  obtain ⟨f0, f1, f2, f3, f4, f5, f6, _, _, _, _, _⟩ := HS.out.wk
  go_enter Try.func58, Try.ntmps58
  go_wp2_with fail
  cases hx : below l n i with
  | none =>
    obtain rfl : none = o := by rw [← HO.out, hx]; rfl
    have hx' := Aside0.mk hx
    clear hx
    refine (below_calls (HS.out.two (by first | exact Below.refl _ _ | exact below_drew (Below.refl _ _))).wk n hn2 none hx'.out).mono ?_
    rintro e w1 ⟨rfl, hd⟩
    have HT := Aside0.mk (HS.out.step (by first | exact Below.refl _ _ | exact below_drew (Below.refl _ _)) hd)
    clear hd f0 f1 f2 f3 f4 f5 f6 HS
    have HS := HT
    clear HT
    obtain ⟨f0, f1, f2, f3, f4, f5, f6, _, _, _, _, _⟩ := HS.out.wk
    simp only [endI]
    go_wp2_with fail
    exact ⟨rfl, rfl, HS.out.bel⟩
  | some p =>
    have hp := Aside0.mk (HB.out p hx)
    obtain rfl : some (byLn (rest l (colAt l p (column l i)))) = o := by rw [← HO.out, hx]; rfl
    have hx' := Aside0.mk hx
    clear hx
    refine (below_calls (HS.out.two (by first | exact Below.refl _ _ | exact below_drew (Below.refl _ _))).wk n hn2 (some p) hx'.out).mono ?_
    rintro e w2 ⟨rfl, hd⟩
    have HT := Aside0.mk (HS.out.step (by first | exact Below.refl _ _ | exact below_drew (Below.refl _ _)) hd)
    clear hd f0 f1 f2 f3 f4 f5 f6 HS
    have HS := HT
    clear HT
    obtain ⟨f0, f1, f2, f3, f4, f5, f6, _, _, _, _, _⟩ := HS.out.wk
    simp only [endI]
    go_wp2_with fail
    refine (column_calls (HS.out.two (by first | exact Below.refl _ _ | exact below_drew (Below.refl _ _))).wk p hp.out).mono ?_
    rintro e w3 ⟨rfl, hd⟩
    have HT := Aside0.mk (HS.out.step (by first | exact Below.refl _ _ | exact below_drew (Below.refl _ _)) hd)
    clear hd f0 f1 f2 f3 f4 f5 f6 HS
    have HS := HT
    clear HT
    obtain ⟨f0, f1, f2, f3, f4, f5, f6, _, _, _, _, _⟩ := HS.out.wk
    simp only [goalV]
    obtain ⟨r0, r1, r2, z⟩ := HS.out.res.cell
    have z0 := z 0
    have z1 := z 1
    have z2 := z 2
    clear z
    go_wp2_with fail
    exact goal_postG HS.out rfl rfl rfl

set_option maxHeartbeats 400000 in
set_option maxRecDepth 100000 in
theorem up_calls (hW : Wk w g A c l i n op key A2 c2 a cn) (o : Option Gl) (hb : ∀ p, above l n i = some p → begins l p = true) (h : ((above l n i).map fun p => byLn (rest l (colAt l p (column l i)))) = o) :
    Calls Try.prog 59 #[.pointer (some ⟨g, 0, none⟩)] w fun e w' => e = endG o ∧ Below w.heap.size w w' := by
  have HO := Aside0.mk h
  have HB := Aside0.mk hb
  clear h hb
  have HS := Aside0.mk (St.begin_ hW)
  have hn1 := hW.n1
  have hn2 := hW.n2
  have hi := begins_le hW.beg
  have hsz := hW.sl.ok.size
  clear hW
  obtain ⟨f0, f1, f2, f3, f4, f5, f6, _, _, _, _, _⟩ := HS.out.wk
  go_enter Try.func59, Try.ntmps59
  go_wp2_with fail
  cases hx : above l n i with
  | none =>
    obtain rfl : none = o := by rw [← HO.out, hx]; rfl
    have hx' := Aside0.mk hx
    clear hx
    refine (above_calls (HS.out.two (by first | exact Below.refl _ _ | exact below_drew (Below.refl _ _))).wk n hn2 none hx'.out).mono ?_
    rintro e w4 ⟨rfl, hd⟩
    have HT := Aside0.mk (HS.out.step (by first | exact Below.refl _ _ | exact below_drew (Below.refl _ _)) hd)
    clear hd f0 f1 f2 f3 f4 f5 f6 HS
    have HS := HT
    clear HT
    obtain ⟨f0, f1, f2, f3, f4, f5, f6, _, _, _, _, _⟩ := HS.out.wk
    simp only [endI]
    go_wp2_with fail
    exact ⟨rfl, rfl, HS.out.bel⟩
  | some p =>
    have hp := Aside0.mk (HB.out p hx)
    obtain rfl : some (byLn (rest l (colAt l p (column l i)))) = o := by rw [← HO.out, hx]; rfl
    have hx' := Aside0.mk hx
    clear hx
    refine (above_calls (HS.out.two (by first | exact Below.refl _ _ | exact below_drew (Below.refl _ _))).wk n hn2 (some p) hx'.out).mono ?_
    rintro e w5 ⟨rfl, hd⟩
    have HT := Aside0.mk (HS.out.step (by first | exact Below.refl _ _ | exact below_drew (Below.refl _ _)) hd)
    clear hd f0 f1 f2 f3 f4 f5 f6 HS
    have HS := HT
    clear HT
    obtain ⟨f0, f1, f2, f3, f4, f5, f6, _, _, _, _, _⟩ := HS.out.wk
    simp only [endI]
    go_wp2_with fail
    refine (column_calls (HS.out.two (by first | exact Below.refl _ _ | exact below_drew (Below.refl _ _))).wk p hp.out).mono ?_
    rintro e w6 ⟨rfl, hd⟩
    have HT := Aside0.mk (HS.out.step (by first | exact Below.refl _ _ | exact below_drew (Below.refl _ _)) hd)
    clear hd f0 f1 f2 f3 f4 f5 f6 HS
    have HS := HT
    clear HT
    obtain ⟨f0, f1, f2, f3, f4, f5, f6, _, _, _, _, _⟩ := HS.out.wk
    simp only [goalV]
    obtain ⟨r0, r1, r2, z⟩ := HS.out.res.cell
    have z0 := z 0
    have z1 := z 1
    have z2 := z 2
    clear z
    go_wp2_with fail
    exact goal_postG HS.out rfl rfl rfl

set_option maxHeartbeats 400000 in
set_option maxRecDepth 100000 in
theorem begin_calls (hW : Wk w g A c l i n op key A2 c2 a cn) :
    Calls Try.prog 60 #[.pointer (some ⟨g, 0, none⟩)] w fun e w' => e = endG (some (plain_ (start l i))) ∧ Below w.heap.size w w' := by
  have HS := Aside0.mk (St.begin_ hW)
  have hn1 := hW.n1
  have hn2 := hW.n2
  have hi := begins_le hW.beg
  have hsz := hW.sl.ok.size
  clear hW
  obtain ⟨f0, f1, f2, f3, f4, f5, f6, _, _, _, _, _⟩ := HS.out.wk
  go_enter Try.func60, Try.ntmps60
  go_wp2_with fail
  refine region_tail 8 (by kernel_rfl) (by kernel_rfl) _ rfl ?_
  simp only [List.take_succ_cons, List.take_zero, List.drop_succ_cons, List.drop_zero]
  repeat still_step
  refine wpStill_nil ?_
  go_wp2_with fail
  refine (c_start (HS.out.two (by first | exact Below.refl _ _ | exact below_drew (Below.refl _ _))).wk.sl hi).mono ?_
  rintro e w7 ⟨rfl, hd⟩
  have HT := Aside0.mk (HS.out.step (by first | exact Below.refl _ _ | exact below_drew (Below.refl _ _)) hd.below)
  clear hd f0 f1 f2 f3 f4 f5 f6 HS
  have HS := HT
  clear HT
  obtain ⟨f0, f1, f2, f3, f4, f5, f6, _, _, _, _, _⟩ := HS.out.wk
  obtain ⟨r0, r1, r2, z⟩ := HS.out.res.cell
  have z0 := z 0
  have z1 := z 1
  have z2 := z 2
  clear z
  go_wp2_with fail
  exact goal_postG HS.out rfl rfl rfl

set_option maxHeartbeats 400000 in
set_option maxRecDepth 100000 in
theorem indent_calls (hW : Wk w g A c l i n op key A2 c2 a cn) :
    Calls Try.prog 61 #[.pointer (some ⟨g, 0, none⟩)] w fun e w' => e = endG (some (plain_ (first l i))) ∧ Below w.heap.size w w' := by
  have hib := Aside0.mk hW.beg
  have HS := Aside0.mk (St.begin_ hW)
  have hn1 := hW.n1
  have hn2 := hW.n2
  have hi := begins_le hW.beg
  have hsz := hW.sl.ok.size
  clear hW
  obtain ⟨f0, f1, f2, f3, f4, f5, f6, _, _, _, _, _⟩ := HS.out.wk
  go_enter Try.func61, Try.ntmps61
  go_wp2_with fail
  refine region_tail 8 (by kernel_rfl) (by kernel_rfl) _ rfl ?_
  simp only [List.take_succ_cons, List.take_zero, List.drop_succ_cons, List.drop_zero]
  repeat still_step
  refine wpStill_nil ?_
  go_wp2_with fail
  refine (c_FirstB (HS.out.two (by first | exact Below.refl _ _ | exact below_drew (Below.refl _ _))).wk.sl hib.out).mono ?_
  rintro e w8 ⟨rfl, hd⟩
  have HT := Aside0.mk (HS.out.step (by first | exact Below.refl _ _ | exact below_drew (Below.refl _ _)) hd)
  clear hd f0 f1 f2 f3 f4 f5 f6 HS
  have HS := HT
  clear HT
  obtain ⟨f0, f1, f2, f3, f4, f5, f6, _, _, _, _, _⟩ := HS.out.wk
  obtain ⟨r0, r1, r2, z⟩ := HS.out.res.cell
  have z0 := z 0
  have z1 := z 1
  have z2 := z 2
  clear z
  go_wp2_with fail
  exact goal_postG HS.out rfl rfl rfl

set_option maxHeartbeats 400000 in
set_option maxRecDepth 100000 in
theorem bar_calls (hW : Wk w g A c l i n op key A2 c2 a cn) :
    Calls Try.prog 62 #[.pointer (some ⟨g, 0, none⟩)] w fun e w' => e = endG (some (plain_ (rest l (colAt l i (n - 1))))) ∧ Below w.heap.size w w' := by
  have hib := Aside0.mk hW.beg
  have HW0 := Aside0.mk hW
  have hg := Aside0.mk hW.lt
  have hc := colAt_le (col := n - 1) (begins_le hib.out)
  have HS := Aside0.mk (St.begin_ hW)
  have hn1 := hW.n1
  have hn2 := hW.n2
  have hi := begins_le hW.beg
  have hsz := hW.sl.ok.size
  clear hW
  obtain ⟨f0, f1, f2, f3, f4, f5, f6, _, _, _, _, _⟩ := HS.out.wk
  go_enter Try.func62, Try.ntmps62
  go_wp2_with fail
  clear f0 f1 f2 f3 f4 f5 f6
  have e1 : IntKind.i64.wrap ((n : Int) - 1) = ((n - 1 : Nat) : Int) := by rw [IntWalk.i64_in _ (by omega)]; omega
  go_region_held3 (fun w' => w'.cell? ⟨g, 0, none⟩ = some (.slice A l.length c) ∧ w'.cell? ⟨g, 1, none⟩ = some (.int .i64 (i : Int)) ∧ w'.cell? ⟨g, 2, none⟩ = some (.int .i64 (n : Int))) (first | exact ⟨HS.out.wk.f0, HS.out.wk.f1, HS.out.wk.f2⟩ | exact ⟨(HS.out.two (below_drew (Below.refl _ _))).wk.f0, (HS.out.two (below_drew (Below.refl _ _))).wk.f1, (HS.out.two (below_drew (Below.refl _ _))).wk.f2⟩ | exact ⟨(Wk.laid HS.out hg.out HW0.out _ _ _).wk.f0, (Wk.laid HS.out hg.out HW0.out _ _ _).wk.f1, (Wk.laid HS.out hg.out HW0.out _ _ _).wk.f2⟩)
    (first | (go_at_call 33; refine (c_PlaceB (HS.out.two (by first | exact Below.refl _ _ | exact below_drew (Below.refl _ _))).wk.sl hib.out ((n - 1 : Nat) : Int) (by omega)).mono ?_; rintro e w9 ⟨rfl, hd⟩; have HT := Aside0.mk (HS.out.step (by first | exact Below.refl _ _ | exact below_drew (Below.refl _ _)) hd); clear hd HS; have HS := HT; clear HT; rw [show (((n - 1 : Nat) : Int)).toNat = n - 1 by omega]) | (go_at_call 42; refine (c_rest (HS.out.two (by first | exact Below.refl _ _ | exact below_drew (Below.refl _ _))).wk.sl hc.2).mono ?_; rintro e w10 ⟨rfl, hd⟩; have HT := Aside0.mk (HS.out.step (by first | exact Below.refl _ _ | exact below_drew (Below.refl _ _)) hd); clear hd HS; have HS := HT; clear HT; obtain ⟨r0, r1, r2, z⟩ := HS.out.res.cell; have z0 := z 0; have z1 := z 1; have z2 := z 2; clear z))
  clear e1
  go_wp2_with fail
  exact goal_postG HS.out rfl rfl rfl

set_option maxHeartbeats 400000 in
set_option maxRecDepth 100000 in
theorem tail_yes (hW : Wk w g A c l i n op key A2 c2 a cn) (p : Nat) (hx : below l (n - 1) i = some p) (hp : p ≤ l.length) :
    Calls Try.prog 63 #[.pointer (some ⟨g, 0, none⟩)] w fun e w' => e = endG (some (incl (rest l (fin l p)))) ∧ Below w.heap.size w w' := by
  have hx' := Aside0.mk hx
  clear hx
  have hf := fin_le hp
  have HW0 := Aside0.mk hW
  have hg := Aside0.mk hW.lt
  have HS := Aside0.mk (St.begin_ hW)
  have hn1 := hW.n1
  have hn2 := hW.n2
  have hi := begins_le hW.beg
  have hsz := hW.sl.ok.size
  clear hW
  obtain ⟨f0, f1, f2, f3, f4, f5, f6, _, _, _, _, _⟩ := HS.out.wk
  go_enter Try.func63, Try.ntmps63
  go_wp2_with fail
  clear f0 f1 f2 f3 f4 f5 f6
  have e1 : IntKind.i64.wrap ((n : Int) - 1) = ((n - 1 : Nat) : Int) := by rw [IntWalk.i64_in _ (by omega)]; omega
  go_region_held3 (fun w' => w'.cell? ⟨g, 0, none⟩ = some (.slice A l.length c) ∧ w'.cell? ⟨g, 1, none⟩ = some (.int .i64 (i : Int)) ∧ w'.cell? ⟨g, 2, none⟩ = some (.int .i64 (n : Int))) (first | exact ⟨HS.out.wk.f0, HS.out.wk.f1, HS.out.wk.f2⟩ | exact ⟨(HS.out.two (below_drew (Below.refl _ _))).wk.f0, (HS.out.two (below_drew (Below.refl _ _))).wk.f1, (HS.out.two (below_drew (Below.refl _ _))).wk.f2⟩ | exact ⟨(Wk.laid HS.out hg.out HW0.out _ _ _).wk.f0, (Wk.laid HS.out hg.out HW0.out _ _ _).wk.f1, (Wk.laid HS.out hg.out HW0.out _ _ _).wk.f2⟩)
    (first | (go_at_call 94; refine (below_calls (HS.out.two (by first | exact Below.refl _ _ | exact below_drew (Below.refl _ _))).wk (n - 1) (by omega) (some p) hx'.out).mono ?_; rintro e w11 ⟨rfl, hd⟩; have HT := Aside0.mk (HS.out.step (by first | exact Below.refl _ _ | exact below_drew (Below.refl _ _)) hd); clear hd HS; have HS := HT; clear HT; simp only [endI]) | (go_at_call 47; refine (c_end (HS.out.two (by first | exact Below.refl _ _ | exact below_drew (Below.refl _ _))).wk.sl hp).mono ?_; rintro e w12 ⟨rfl, hd⟩; have HT := Aside0.mk (HS.out.step (by first | exact Below.refl _ _ | exact below_drew (Below.refl _ _)) hd.below); clear hd HS; have HS := HT; clear HT) | (go_at_call 42; refine (c_rest (HS.out.two (by first | exact Below.refl _ _ | exact below_drew (Below.refl _ _))).wk.sl hf.2).mono ?_; rintro e w13 ⟨rfl, hd⟩; have HT := Aside0.mk (HS.out.step (by first | exact Below.refl _ _ | exact below_drew (Below.refl _ _)) hd); clear hd HS; have HS := HT; clear HT; obtain ⟨r0, r1, r2, z⟩ := HS.out.res.cell; have z0 := z 0; have z1 := z 1; have z2 := z 2; clear z))
  clear e1
  go_wp2_with fail
  exact goal_postG HS.out rfl rfl rfl
end
end Go.Proofs.Ytiibjehnlphabaa

end

section
namespace Go.Proofs.Ytiibjehnlphabaa
open Go.RowKit Go.Proofs.YtiibjehnlphabaaW.PrintWords Go.Proofs.YtiibjehnlphabaaW.PrintMore Q
set_option linter.unusedVariables false
set_option linter.unusedSimpArgs false
section
variable {w : World} {g : Nat} {A : Option Addr} {c : Nat} {l : List Int} {i : Nat} {n : Nat} {op : Bool} {key : ByteArray} {A2 : Option Addr} {c2 : Nat} {a : List Int} {cn : Int}
theorem run_pos {l : List Int} {j : Nat} {q : Int} (h : j < l.length) (hk : kls l j = q) : run l j q = run l (on l j) q := whileOn_pos h (by simpa using hk)
theorem run_neg {l : List Int} {j : Nat} {q : Int} (h : ¬ (j < l.length ∧ kls l j = q)) : run l j q = j := whileOn_neg (by simpa using h)

set_option maxHeartbeats 400000 in
set_option maxRecDepth 100000 in
theorem run_calls (hW : Wk w g A c l i n op key A2 c2 a cn) (j : Nat) (hj : j ≤ l.length) (q : Int) :
    Calls Try.prog 97 #[.pointer (some ⟨g, 0, none⟩), .int .i64 (j : Int), .int .i64 q] w fun e w' => e = .returned (.int .i64 (run l j q : Int)) ∧ Below w.heap.size w w' := by
  have HS := Aside0.mk (Su.begin_ hW)
  have hn1 := hW.n1
  have hn2 := hW.n2
  have hi := begins_le hW.beg
  have hsz := hW.sl.ok.size
  clear hW
  obtain ⟨f0, f1, f2, f3, f4, f5, f6, _, _, _, _, _⟩ := HS.out.wk
  go_enter Try.func97, Try.ntmps97
  go_wp2_with fail
  go_loopw [1] (fun v1 wr => ∃ (k : Nat), v1 = .int .i64 k ∧ k ≤ l.length ∧ Aside0 (run l k q = run l j q) ∧ Aside0 (Su w wr (Wk wr g A c l i n op key A2 c2 a cn))) (fun v1 _ => l.length - (intOf v1).toNat)
  case atStart => exact ⟨j, rfl, hj, ⟨rfl⟩, HS⟩
  case round =>
    clear f0 f1 f2 f3 f4 f5 f6 HS
    obtain ⟨k, rfl, hk, HL, HS⟩ := hrel
    obtain ⟨f0, f1, f2, f3, f4, f5, f6, _, _, _, _, _⟩ := HS.out.wk
    by_cases h1 : k < l.length
    · have t1 : decide ((k : Int) < (l.length : Int)) = true := decide_eq_true (by omega)
      have t1' : decide (k < l.length) = true := decide_eq_true (by omega)
      have hg := on_gt h1
      go_wp2_with fail
      refine (c_class (HS.out.two (by first | exact Below.refl _ _ | exact below_drew (Below.refl _ _))).wk.sl k).mono ?_
      rintro e w1 ⟨rfl, hd⟩
      have HT := Aside0.mk (HS.out.step (by first | exact Below.refl _ _ | exact below_drew (Below.refl _ _)) hd)
      clear hd f0 f1 f2 f3 f4 f5 f6 HS t1 t1'
      have HS := HT
      clear HT
      obtain ⟨f0, f1, f2, f3, f4, f5, f6, _, _, _, _, _⟩ := HS.out.wk
      by_cases h2 : kls l k = q
      · have t2 : (kls l k == q) = true := beq_iff_eq.2 h2
        have h2' := Aside0.mk h2
        clear h2
        go_wp2_with fail
        refine (c_on (HS.out.two (by first | exact Below.refl _ _ | exact below_drew (Below.refl _ _))).wk.sl hk).mono ?_
        rintro e w2 ⟨rfl, hd⟩
        have HT := Aside0.mk (HS.out.step (by first | exact Below.refl _ _ | exact below_drew (Below.refl _ _)) hd)
        clear hd f0 f1 f2 f3 f4 f5 f6 HS t2
        have HS := HT
        clear HT
        obtain ⟨f0, f1, f2, f3, f4, f5, f6, _, _, _, _, _⟩ := HS.out.wk
        go_wp2_with fail
        go_roundw
        case rel => exact ⟨on l k, by go_num, hg.2.1, ⟨by rw [← HL.out]; exact (run_pos h1 h2'.out).symm⟩, HS⟩
        case measure => simp [intOf]; omega
      · have t2 : (kls l k == q) = false := beq_eq_false_iff_ne.2 h2
        go_wp2_with fail
        go_ret
        exact ⟨by rw [← HL.out, run_neg (fun h => h2 h.2)]; rfl, HS.out.bel⟩
    · have t1 : decide ((k : Int) < (l.length : Int)) = false := decide_eq_false (by omega)
      have t1' : decide (k < l.length) = false := decide_eq_false (by omega)
      go_wp2_with fail
      go_ret
      exact ⟨by rw [← HL.out, run_neg (fun h => h1 h.1)]; rfl, HS.out.bel⟩

def wordP (l : List Int) (i : Nat) (stop : Bool) (j : Nat) : Bool := decide (kls l j = 0) && !(stop && decide (l.getD j 0 = 10) && decide (i < j))
def word0 (l : List Int) (i : Nat) : Nat := if kls l i ≠ 0 then run l i (kls l i) else i
theorem word_eq (l : List Int) (i : Nat) (stop : Bool) : word l i stop = whileOn (wordP l i stop) l (word0 l i) := rfl
theorem word0_le {l : List Int} {i : Nat} (h : i ≤ l.length) : i ≤ word0 l i ∧ word0 l i ≤ l.length := by
  unfold word0
  split
  · exact whileOn_le h
  · exact ⟨Nat.le_refl _, h⟩

set_option maxHeartbeats 1000000 in
set_option maxRecDepth 100000 in
theorem word_calls (hW : Wk w g A c l i n op key A2 c2 a cn) (j : Nat) (hj : j ≤ l.length) (stop : Bool) :
    Calls Try.prog 96 #[.pointer (some ⟨g, 0, none⟩), .int .i64 (j : Int), .bool stop] w fun e w' => e = .returned (.int .i64 (word l j stop : Int)) ∧ Below w.heap.size w w' := by
  have HW0 := word0_le hj
  have HS := Aside0.mk (Su.begin_ hW)
  have hn1 := hW.n1
  have hn2 := hW.n2
  have hi := begins_le hW.beg
  have hsz := hW.sl.ok.size
  clear hW
  obtain ⟨f0, f1, f2, f3, f4, f5, f6, _, _, _, _, _⟩ := HS.out.wk
  go_enter Try.func96, Try.ntmps96
  go_wp2_with fail
  refine (c_class (HS.out.two (by first | exact Below.refl _ _ | exact below_drew (Below.refl _ _))).wk.sl j).mono ?_
  rintro e w3 ⟨rfl, hd⟩
  have HT := Aside0.mk (HS.out.step (by first | exact Below.refl _ _ | exact below_drew (Below.refl _ _)) hd)
  clear hd f0 f1 f2 f3 f4 f5 f6 HS
  have HS := HT
  clear HT
  obtain ⟨f0, f1, f2, f3, f4, f5, f6, _, _, _, _, _⟩ := HS.out.wk
  by_cases hk : kls l j = 0
  · have hw : word0 l j = j := by unfold word0; rw [if_neg (by simp [hk])]
    have t0 : (kls l j != 0) = false := by simp [hk]
    have hw' := Aside0.mk hw
    clear hk hw
    go_wp2_with fail
    clear t0
    go_loopw [7] (fun v7 wr => ∃ (k : Nat), v7 = .int .i64 k ∧ k ≤ l.length ∧ Aside0 (whileOn (wordP l j stop) l k = word l j stop) ∧ Aside0 (Su w wr (Wk wr g A c l i n op key A2 c2 a cn))) (fun v7 _ => l.length - (intOf v7).toNat)
    case atStart => exact ⟨word0 l j, by rw [hw'.out], HW0.2, ⟨rfl⟩, HS⟩
    case round =>
      clear f0 f1 f2 f3 f4 f5 f6 HS
      obtain ⟨k, rfl, hk, HL, HS⟩ := hrel
      obtain ⟨f0, f1, f2, f3, f4, f5, f6, _, _, _, _, _⟩ := HS.out.wk
      by_cases h1 : k < l.length
      · have t1 : decide ((k : Int) < (l.length : Int)) = true := decide_eq_true (by omega)
        have t1' : decide (k < l.length) = true := decide_eq_true (by omega)
        have hg := on_gt h1
        go_wp2_with fail
        refine (c_class (HS.out.two (by first | exact Below.refl _ _ | exact below_drew (Below.refl _ _))).wk.sl k).mono ?_
        rintro e w4 ⟨rfl, hd⟩
        have HT := Aside0.mk (HS.out.step (by first | exact Below.refl _ _ | exact below_drew (Below.refl _ _)) hd)
        clear hd f0 f1 f2 f3 f4 f5 f6 HS t1 t1'
        have HS := HT
        clear HT
        obtain ⟨f0, f1, f2, f3, f4, f5, f6, _, _, _, _, _⟩ := HS.out.wk
        by_cases h2 : kls l k = 0
        · have t2 : (kls l k == 0) = true := beq_iff_eq.2 h2
          have h2' := Aside0.mk h2
          clear h2
          by_cases h3 : (stop && decide (l.getD k 0 = 10) && decide (j < k)) = true
          · have hp : ¬ (k < l.length ∧ wordP l j stop k = true) := fun h => by have := h.2; rw [wordP, h3] at this; simp at this
            have e0 := Aside0.mk (HL.out.symm.trans (whileOn_neg hp))
            clear hp HL
            simp only [Bool.and_eq_true, decide_eq_true_eq] at h3
            obtain ⟨⟨h4, h5⟩, h6⟩ := h3
            subst h4
            obtain ⟨b, off, hA, hx⟩ := HS.out.wk.sl.at_ h1
            rw [h5] at hx
            subst hA
            have t3 : decide ((j : Int) < (k : Int)) = true := decide_eq_true (by omega)
            have t3' : decide (j < k) = true := decide_eq_true h6
            clear h5
            go_wp2_with fail
            go_ret
            exact ⟨by rw [e0.out]; rfl, HS.out.bel⟩
          · have hp : wordP l j stop k = true := by rw [wordP, Bool.eq_false_iff.2 h3]; simp [h2'.out]
            have e0 := Aside0.mk ((whileOn_pos h1 hp).symm.trans HL.out)
            clear hp HL
            obtain ⟨b, off, hA, hx⟩ := HS.out.wk.sl.at_ h1
            subst hA
            cases stop with
            | false =>
              go_wp2_with fail
              refine (c_on (HS.out.two (by first | exact Below.refl _ _ | exact below_drew (Below.refl _ _))).wk.sl hk).mono ?_
              rintro e w5 ⟨rfl, hd⟩
              have HT := Aside0.mk (HS.out.step (by first | exact Below.refl _ _ | exact below_drew (Below.refl _ _)) hd)
              clear hd f0 f1 f2 f3 f4 f5 f6 HS t2 hx
              have HS := HT
              clear HT
              obtain ⟨f0, f1, f2, f3, f4, f5, f6, _, _, _, _, _⟩ := HS.out.wk
              go_wp2_with fail
              go_roundw
              case rel => exact ⟨on l k, by go_num, hg.2.1, e0, HS⟩
              case measure => simp [intOf]; omega
            | true =>
              by_cases h5 : l.getD k 0 = 10
              · have h6 : ¬ j < k := fun h => h3 (by rw [h5]; simp [h])
                rw [h5] at hx
                have t3 : decide ((j : Int) < (k : Int)) = false := decide_eq_false (by omega)
                have t3' : decide (j < k) = false := decide_eq_false h6
                clear h5 h3
                go_wp2_with fail
                refine (c_on (HS.out.two (by first | exact Below.refl _ _ | exact below_drew (Below.refl _ _))).wk.sl hk).mono ?_
                rintro e w6 ⟨rfl, hd⟩
                have HT := Aside0.mk (HS.out.step (by first | exact Below.refl _ _ | exact below_drew (Below.refl _ _)) hd)
                clear hd f0 f1 f2 f3 f4 f5 f6 HS t2 hx t3 t3'
                have HS := HT
                clear HT
                obtain ⟨f0, f1, f2, f3, f4, f5, f6, _, _, _, _, _⟩ := HS.out.wk
                go_wp2_with fail
                go_roundw
                case rel => exact ⟨on l k, by go_num, hg.2.1, e0, HS⟩
                case measure => simp [intOf]; omega
              · have t3 : (l.getD k 0 == 10) = false := beq_eq_false_iff_ne.2 h5
                generalize l.getD k 0 = d at *
                clear h5 h3
                go_wp2_with fail
                refine (c_on (HS.out.two (by first | exact Below.refl _ _ | exact below_drew (Below.refl _ _))).wk.sl hk).mono ?_
                rintro e w7 ⟨rfl, hd⟩
                have HT := Aside0.mk (HS.out.step (by first | exact Below.refl _ _ | exact below_drew (Below.refl _ _)) hd)
                clear hd f0 f1 f2 f3 f4 f5 f6 HS t2 hx t3
                have HS := HT
                clear HT
                obtain ⟨f0, f1, f2, f3, f4, f5, f6, _, _, _, _, _⟩ := HS.out.wk
                go_wp2_with fail
                go_roundw
                case rel => exact ⟨on l k, by go_num, hg.2.1, e0, HS⟩
                case measure => simp [intOf]; omega
        · have t2 : (kls l k == 0) = false := beq_eq_false_iff_ne.2 h2
          have hp : ¬ (k < l.length ∧ wordP l j stop k = true) := fun h => by have := h.2; rw [wordP] at this; simp [h2] at this
          have e0 := Aside0.mk (HL.out.symm.trans (whileOn_neg hp))
          clear hp HL
          go_wp2_with fail
          go_ret
          exact ⟨by rw [e0.out]; rfl, HS.out.bel⟩
      · have t1 : decide ((k : Int) < (l.length : Int)) = false := decide_eq_false (by omega)
        have t1' : decide (k < l.length) = false := decide_eq_false (by omega)
        have e0 := Aside0.mk (HL.out.symm.trans (whileOn_neg (fun h => h1 h.1)))
        clear HL
        go_wp2_with fail
        go_ret
        exact ⟨by rw [e0.out]; rfl, HS.out.bel⟩
  · have hw : word0 l j = run l j (kls l j) := by unfold word0; rw [if_pos hk]
    have t0 : (kls l j != 0) = true := by simp [hk]
    have hw' := Aside0.mk hw
    clear hk hw
    go_wp2_with fail
    refine (run_calls (HS.out.two (by first | exact Below.refl _ _ | exact below_drew (Below.refl _ _))).wk j hj (kls l j)).mono ?_
    rintro e w8 ⟨rfl, hd⟩
    have HT := Aside0.mk (HS.out.step (by first | exact Below.refl _ _ | exact below_drew (Below.refl _ _)) hd)
    clear hd f0 f1 f2 f3 f4 f5 f6 HS t0
    have HS := HT
    clear HT
    obtain ⟨f0, f1, f2, f3, f4, f5, f6, _, _, _, _, _⟩ := HS.out.wk
    rw [← hw'.out]
    go_wp2_with fail
    go_loopw [7] (fun v7 wr => ∃ (k : Nat), v7 = .int .i64 k ∧ k ≤ l.length ∧ Aside0 (whileOn (wordP l j stop) l k = word l j stop) ∧ Aside0 (Su w wr (Wk wr g A c l i n op key A2 c2 a cn))) (fun v7 _ => l.length - (intOf v7).toNat)
    case atStart => exact ⟨word0 l j, rfl, HW0.2, ⟨rfl⟩, HS⟩
    case round =>
      clear f0 f1 f2 f3 f4 f5 f6 HS
      obtain ⟨k, rfl, hk, HL, HS⟩ := hrel
      obtain ⟨f0, f1, f2, f3, f4, f5, f6, _, _, _, _, _⟩ := HS.out.wk
      by_cases h1 : k < l.length
      · have t1 : decide ((k : Int) < (l.length : Int)) = true := decide_eq_true (by omega)
        have t1' : decide (k < l.length) = true := decide_eq_true (by omega)
        have hg := on_gt h1
        go_wp2_with fail
        refine (c_class (HS.out.two (by first | exact Below.refl _ _ | exact below_drew (Below.refl _ _))).wk.sl k).mono ?_
        rintro e w9 ⟨rfl, hd⟩
        have HT := Aside0.mk (HS.out.step (by first | exact Below.refl _ _ | exact below_drew (Below.refl _ _)) hd)
        clear hd f0 f1 f2 f3 f4 f5 f6 HS t1 t1'
        have HS := HT
        clear HT
        obtain ⟨f0, f1, f2, f3, f4, f5, f6, _, _, _, _, _⟩ := HS.out.wk
        by_cases h2 : kls l k = 0
        · have t2 : (kls l k == 0) = true := beq_iff_eq.2 h2
          have h2' := Aside0.mk h2
          clear h2
          by_cases h3 : (stop && decide (l.getD k 0 = 10) && decide (j < k)) = true
          · have hp : ¬ (k < l.length ∧ wordP l j stop k = true) := fun h => by have := h.2; rw [wordP, h3] at this; simp at this
            have e0 := Aside0.mk (HL.out.symm.trans (whileOn_neg hp))
            clear hp HL
            simp only [Bool.and_eq_true, decide_eq_true_eq] at h3
            obtain ⟨⟨h4, h5⟩, h6⟩ := h3
            subst h4
            obtain ⟨b, off, hA, hx⟩ := HS.out.wk.sl.at_ h1
            rw [h5] at hx
            subst hA
            have t3 : decide ((j : Int) < (k : Int)) = true := decide_eq_true (by omega)
            have t3' : decide (j < k) = true := decide_eq_true h6
            clear h5
            go_wp2_with fail
            go_ret
            exact ⟨by rw [e0.out]; rfl, HS.out.bel⟩
          · have hp : wordP l j stop k = true := by rw [wordP, Bool.eq_false_iff.2 h3]; simp [h2'.out]
            have e0 := Aside0.mk ((whileOn_pos h1 hp).symm.trans HL.out)
            clear hp HL
            obtain ⟨b, off, hA, hx⟩ := HS.out.wk.sl.at_ h1
            subst hA
            cases stop with
            | false =>
              go_wp2_with fail
              refine (c_on (HS.out.two (by first | exact Below.refl _ _ | exact below_drew (Below.refl _ _))).wk.sl hk).mono ?_
              rintro e w10 ⟨rfl, hd⟩
              have HT := Aside0.mk (HS.out.step (by first | exact Below.refl _ _ | exact below_drew (Below.refl _ _)) hd)
              clear hd f0 f1 f2 f3 f4 f5 f6 HS t2 hx
              have HS := HT
              clear HT
              obtain ⟨f0, f1, f2, f3, f4, f5, f6, _, _, _, _, _⟩ := HS.out.wk
              go_wp2_with fail
              go_roundw
              case rel => exact ⟨on l k, by go_num, hg.2.1, e0, HS⟩
              case measure => simp [intOf]; omega
            | true =>
              by_cases h5 : l.getD k 0 = 10
              · have h6 : ¬ j < k := fun h => h3 (by rw [h5]; simp [h])
                rw [h5] at hx
                have t3 : decide ((j : Int) < (k : Int)) = false := decide_eq_false (by omega)
                have t3' : decide (j < k) = false := decide_eq_false h6
                clear h5 h3
                go_wp2_with fail
                refine (c_on (HS.out.two (by first | exact Below.refl _ _ | exact below_drew (Below.refl _ _))).wk.sl hk).mono ?_
                rintro e w11 ⟨rfl, hd⟩
                have HT := Aside0.mk (HS.out.step (by first | exact Below.refl _ _ | exact below_drew (Below.refl _ _)) hd)
                clear hd f0 f1 f2 f3 f4 f5 f6 HS t2 hx t3 t3'
                have HS := HT
                clear HT
                obtain ⟨f0, f1, f2, f3, f4, f5, f6, _, _, _, _, _⟩ := HS.out.wk
                go_wp2_with fail
                go_roundw
                case rel => exact ⟨on l k, by go_num, hg.2.1, e0, HS⟩
                case measure => simp [intOf]; omega
              · have t3 : (l.getD k 0 == 10) = false := beq_eq_false_iff_ne.2 h5
                generalize l.getD k 0 = d at *
                clear h5 h3
                go_wp2_with fail
                refine (c_on (HS.out.two (by first | exact Below.refl _ _ | exact below_drew (Below.refl _ _))).wk.sl hk).mono ?_
                rintro e w12 ⟨rfl, hd⟩
                have HT := Aside0.mk (HS.out.step (by first | exact Below.refl _ _ | exact below_drew (Below.refl _ _)) hd)
                clear hd f0 f1 f2 f3 f4 f5 f6 HS t2 hx t3
                have HS := HT
                clear HT
                obtain ⟨f0, f1, f2, f3, f4, f5, f6, _, _, _, _, _⟩ := HS.out.wk
                go_wp2_with fail
                go_roundw
                case rel => exact ⟨on l k, by go_num, hg.2.1, e0, HS⟩
                case measure => simp [intOf]; omega
        · have t2 : (kls l k == 0) = false := beq_eq_false_iff_ne.2 h2
          have hp : ¬ (k < l.length ∧ wordP l j stop k = true) := fun h => by have := h.2; rw [wordP] at this; simp [h2] at this
          have e0 := Aside0.mk (HL.out.symm.trans (whileOn_neg hp))
          clear hp HL
          go_wp2_with fail
          go_ret
          exact ⟨by rw [e0.out]; rfl, HS.out.bel⟩
      · have t1 : decide ((k : Int) < (l.length : Int)) = false := decide_eq_false (by omega)
        have t1' : decide (k < l.length) = false := decide_eq_false (by omega)
        have e0 := Aside0.mk (HL.out.symm.trans (whileOn_neg (fun h => h1 h.1)))
        clear HL
        go_wp2_with fail
        go_ret
        exact ⟨by rw [e0.out]; rfl, HS.out.bel⟩
end
end Go.Proofs.Ytiibjehnlphabaa

end

section
namespace Go.Proofs.Ytiibjehnlphabaa
open Go.RowKit Go.Proofs.YtiibjehnlphabaaW.PrintWords Go.Proofs.YtiibjehnlphabaaW.PrintMore Q
set_option linter.unusedVariables false
set_option linter.unusedSimpArgs false
section
variable {w : World} {g : Nat} {A : Option Addr} {c : Nat} {l : List Int} {i : Nat} {n : Nat} {op : Bool} {key : ByteArray} {A2 : Option Addr} {c2 : Nat} {a : List Int} {cn : Int}
theorem wordsN_more (l : List Int) (op : Bool) {n k j : Nat} (hk : k < n) (hj : j < l.length) : wordsN l op (n - k) j = wordsN l op (n - (k + 1)) (word l j (op && decide (k + 1 = n))) := by
  obtain ⟨m, hm⟩ : ∃ m, n - k = m + 1 := ⟨n - k - 1, by omega⟩
  rw [hm, show n - (k + 1) = m by omega]
  simp only [wordsN, if_pos hj]
  congr 3
  rw [Bool.eq_iff_iff]
  simp
  omega
theorem wordsN_end (l : List Int) (op : Bool) {m j : Nat} (h : m = 0 ∨ ¬ j < l.length) : wordsN l op m j = j := by
  cases m with
  | zero => rfl
  | succ m => simp only [wordsN]; rw [if_neg (by omega)]
theorem word_le {l : List Int} {i : Nat} (stop : Bool) (h : i ≤ l.length) : i ≤ word l i stop ∧ word l i stop ≤ l.length := by
  have h0 := word0_le h
  have := whileOn_le (p := wordP l i stop) h0.2
  rw [word_eq]
  omega
theorem endsN_more (l : List Int) {n k j : Nat} (hk : k < n) (h1 : j < l.length) (h2 : run l (on l j) 0 < l.length) :
    endsN l (n - k) j = endsN l (n - (k + 1)) (run l (run l (on l j) 0) (kls l (run l (on l j) 0)) - lastSz l (run l (run l (on l j) 0) (kls l (run l (on l j) 0)))) := by
  obtain ⟨m, hm⟩ : ∃ m, n - k = m + 1 := ⟨n - k - 1, by omega⟩
  rw [hm, show n - (k + 1) = m by omega]
  simp only [endsN, if_pos h1, if_pos h2]
theorem endsN_stop1 (l : List Int) {n k j : Nat} (hk : k < n) (h1 : ¬ j < l.length) : endsN l (n - k) j = none := by
  obtain ⟨m, hm⟩ : ∃ m, n - k = m + 1 := ⟨n - k - 1, by omega⟩
  rw [hm]
  simp only [endsN, if_neg h1]
theorem endsN_stop2 (l : List Int) {n k j : Nat} (hk : k < n) (h1 : j < l.length) (h2 : ¬ run l (on l j) 0 < l.length) : endsN l (n - k) j = none := by
  obtain ⟨m, hm⟩ : ∃ m, n - k = m + 1 := ⟨n - k - 1, by omega⟩
  rw [hm]
  simp only [endsN, if_pos h1, if_neg h2]
theorem run_le {l : List Int} {j : Nat} (q : Int) (h : j ≤ l.length) : j ≤ run l j q ∧ run l j q ≤ l.length := whileOn_le h
theorem run_own {l : List Int} {j : Nat} (h : j < l.length) : on l j ≤ run l j (kls l j) ∧ run l j (kls l j) ≤ l.length := by
  rw [run_pos h rfl]
  exact run_le _ (on_gt h).2.1

set_option maxHeartbeats 2000000 in
set_option maxRecDepth 100000 in
theorem words_calls (hW : Wk w g A c l i n op key A2 c2 a cn) (o : Option Gl) (h : (if i < l.length then (if op = true then some (plain_ (wordsN l op n i)) else if rest l (wordsN l op n i) = i then none else some (plain_ (rest l (wordsN l op n i)))) else none) = o) :
    Calls Try.prog 64 #[.pointer (some ⟨g, 0, none⟩)] w fun e w' => e = endG o ∧ Below w.heap.size w w' := by
  have HO := Aside0.mk h
  clear h
  cases op with
  | true =>
    have HS := Aside0.mk (St.begin_ hW)
    have hn1 := hW.n1
    have hn2 := hW.n2
    have hi := begins_le hW.beg
    have hsz := hW.sl.ok.size
    clear hW
    obtain ⟨f0, f1, f2, f3, f4, f5, f6, _, _, _, _, _⟩ := HS.out.wk
    go_enter Try.func64, Try.ntmps64
    go_wp2_with fail
    by_cases hs : i < l.length
    · skip
      have t0 : decide ((i : Int) < (l.length : Int)) = true := decide_eq_true (by omega)
      have t0' : decide (i < l.length) = true := decide_eq_true (by omega)
      refine region_tail 10 (by kernel_rfl) (by kernel_rfl) _ rfl ?_
      simp only [List.take_succ_cons, List.take_zero, List.drop_succ_cons, List.drop_zero]
      repeat still_step
      refine wpStill_nil ?_
      go_wp2_with (first | (go_at_call 92; refine (must_ok _).mono ?_; rintro e wm ⟨rfl, rfl⟩) | (go_at_call 92; refine (must_no _).mono ?_; rintro e wm ⟨rfl, rfl⟩))
      clear t0 t0'
      go_loopw [3, 4] (fun v3 v4 wr => ∃ (k j : Nat), v4 = .int .i64 k ∧ v3 = .int .i64 j ∧ k ≤ n ∧ j ≤ l.length ∧ Aside0 (wordsN l true (n - k) j = wordsN l true n i) ∧ Aside0 (St w wr w.heap.size (Wk wr g A c l i n true key A2 c2 a cn))) (fun _ v4 _ => n - (intOf v4).toNat)
      case atStart => exact ⟨0, i, rfl, rfl, by omega, hi, ⟨rfl⟩, ⟨HS.out.two (below_drew (Below.refl _ _))⟩⟩
      case round =>
        clear f0 f1 f2 f3 f4 f5 f6 HS
        obtain ⟨k, j, rfl, rfl, hk, hj, HL, HS⟩ := hrel
        obtain ⟨f0, f1, f2, f3, f4, f5, f6, _, _, _, _, _⟩ := HS.out.wk
        by_cases h1 : k < n
        · skip
          have t1 : decide ((k : Int) < (n : Int)) = true := decide_eq_true (by omega)
          have t1' : decide (k < n) = true := decide_eq_true (by omega)
          by_cases h2 : j < l.length
          · skip
            have t2 : decide ((j : Int) < (l.length : Int)) = true := decide_eq_true (by omega)
            have t2' : decide (j < l.length) = true := decide_eq_true (by omega)
            by_cases h3 : k + 1 = n
            · have t3 : ((k : Int) == (n : Int) - 1) = true := beq_iff_eq.2 (by omega)
              have hst := Aside0.mk (show (true && decide (k + 1 = n)) = true by simp [h3])
              clear h3
              go_wp2_with fail
              refine (word_calls (HS.out.two (by first | exact Below.refl _ _ | exact below_drew (Below.refl _ _))).wk j hj true).mono ?_
              rintro e w1 ⟨rfl, hd⟩
              have HT := Aside0.mk (HS.out.step (by first | exact Below.refl _ _ | exact below_drew (Below.refl _ _)) hd)
              clear hd f0 f1 f2 f3 f4 f5 f6 HS t1 t1' t2 t2' t3
              have HS := HT
              clear HT
              obtain ⟨f0, f1, f2, f3, f4, f5, f6, _, _, _, _, _⟩ := HS.out.wk
              have hw := word_le (l := l) true hj
              go_wp2_with fail
              go_roundw
              case rel => exact ⟨k + 1, word l j true, by go_num, by go_num, by omega, hw.2, ⟨by rw [← HL.out, wordsN_more l _ h1 h2, hst.out]⟩, HS⟩
              case measure => simp [intOf]; omega
            · have t3 : ((k : Int) == (n : Int) - 1) = false := beq_eq_false_iff_ne.2 (by omega)
              have hst := Aside0.mk (show (true && decide (k + 1 = n)) = false by simp [h3])
              go_wp2_with fail
              refine (word_calls (HS.out.two (by first | exact Below.refl _ _ | exact below_drew (Below.refl _ _))).wk j hj false).mono ?_
              rintro e w2 ⟨rfl, hd⟩
              have HT := Aside0.mk (HS.out.step (by first | exact Below.refl _ _ | exact below_drew (Below.refl _ _)) hd)
              clear hd f0 f1 f2 f3 f4 f5 f6 HS t1 t1' t2 t2' t3
              have HS := HT
              clear HT
              obtain ⟨f0, f1, f2, f3, f4, f5, f6, _, _, _, _, _⟩ := HS.out.wk
              have hw := word_le (l := l) false hj
              go_wp2_with fail
              go_roundw
              case rel => exact ⟨k + 1, word l j false, by go_num, by go_num, by omega, hw.2, ⟨by rw [← HL.out, wordsN_more l _ h1 h2, hst.out]⟩, HS⟩
              case measure => simp [intOf]; omega
          · skip
            have t2 : decide ((j : Int) < (l.length : Int)) = false := decide_eq_false (by omega)
            have t2' : decide (j < l.length) = false := decide_eq_false (by omega)
            obtain ⟨r0, r1, r2, z⟩ := HS.out.res.cell
            have z0 := z 0
            have z1 := z 1
            have z2 := z 2
            clear z
            go_wp2_with fail
            exact goal_postG HS.out rfl rfl (by rw [← HO.out, if_pos hs, ← HL.out, wordsN_end l _ (by omega)]; rfl)
        · skip
          have t1 : decide ((k : Int) < (n : Int)) = false := decide_eq_false (by omega)
          have t1' : decide (k < n) = false := decide_eq_false (by omega)
          obtain ⟨r0, r1, r2, z⟩ := HS.out.res.cell
          have z0 := z 0
          have z1 := z 1
          have z2 := z 2
          clear z
          go_wp2_with fail
          exact goal_postG HS.out rfl rfl (by rw [← HO.out, if_pos hs, ← HL.out, wordsN_end l _ (by omega)]; rfl)
    · skip
      have t0 : decide ((i : Int) < (l.length : Int)) = false := decide_eq_false (by omega)
      have t0' : decide (i < l.length) = false := decide_eq_false (by omega)
      refine region_tail 10 (by kernel_rfl) (by kernel_rfl) _ rfl ?_
      simp only [List.take_succ_cons, List.take_zero, List.drop_succ_cons, List.drop_zero]
      repeat still_step
      refine wpStill_nil ?_
      go_wp2_with (first | (go_at_call 92; refine (must_ok _).mono ?_; rintro e wm ⟨rfl, rfl⟩) | (go_at_call 92; refine (must_no _).mono ?_; rintro e wm ⟨rfl, rfl⟩))
      obtain rfl : none = o := by rw [← HO.out, if_neg hs]
      exact ⟨rfl, rfl, (HS.out.two (below_drew (Below.refl _ _))).bel⟩
  | false =>
    have HS := Aside0.mk (St.begin_ hW)
    have hn1 := hW.n1
    have hn2 := hW.n2
    have hi := begins_le hW.beg
    have hsz := hW.sl.ok.size
    clear hW
    obtain ⟨f0, f1, f2, f3, f4, f5, f6, _, _, _, _, _⟩ := HS.out.wk
    go_enter Try.func64, Try.ntmps64
    go_wp2_with fail
    by_cases hs : i < l.length
    · skip
      have t0 : decide ((i : Int) < (l.length : Int)) = true := decide_eq_true (by omega)
      have t0' : decide (i < l.length) = true := decide_eq_true (by omega)
      refine region_tail 10 (by kernel_rfl) (by kernel_rfl) _ rfl ?_
      simp only [List.take_succ_cons, List.take_zero, List.drop_succ_cons, List.drop_zero]
      repeat still_step
      refine wpStill_nil ?_
      go_wp2_with (first | (go_at_call 92; refine (must_ok _).mono ?_; rintro e wm ⟨rfl, rfl⟩) | (go_at_call 92; refine (must_no _).mono ?_; rintro e wm ⟨rfl, rfl⟩))
      clear t0 t0'
      go_loopw [3, 4] (fun v3 v4 wr => ∃ (k j : Nat), v4 = .int .i64 k ∧ v3 = .int .i64 j ∧ k ≤ n ∧ j ≤ l.length ∧ Aside0 (wordsN l false (n - k) j = wordsN l false n i) ∧ Aside0 (St w wr w.heap.size (Wk wr g A c l i n false key A2 c2 a cn))) (fun _ v4 _ => n - (intOf v4).toNat)
      case atStart => exact ⟨0, i, rfl, rfl, by omega, hi, ⟨rfl⟩, ⟨HS.out.two (below_drew (Below.refl _ _))⟩⟩
      case round =>
        clear f0 f1 f2 f3 f4 f5 f6 HS
        obtain ⟨k, j, rfl, rfl, hk, hj, HL, HS⟩ := hrel
        obtain ⟨f0, f1, f2, f3, f4, f5, f6, _, _, _, _, _⟩ := HS.out.wk
        by_cases h1 : k < n
        · skip
          have t1 : decide ((k : Int) < (n : Int)) = true := decide_eq_true (by omega)
          have t1' : decide (k < n) = true := decide_eq_true (by omega)
          by_cases h2 : j < l.length
          · skip
            have t2 : decide ((j : Int) < (l.length : Int)) = true := decide_eq_true (by omega)
            have t2' : decide (j < l.length) = true := decide_eq_true (by omega)
            have hst := Aside0.mk (show (false && decide (k + 1 = n)) = false from rfl)
            go_wp2_with fail
            refine (word_calls (HS.out.two (by first | exact Below.refl _ _ | exact below_drew (Below.refl _ _))).wk j hj false).mono ?_
            rintro e w3 ⟨rfl, hd⟩
            have HT := Aside0.mk (HS.out.step (by first | exact Below.refl _ _ | exact below_drew (Below.refl _ _)) hd)
            clear hd f0 f1 f2 f3 f4 f5 f6 HS t1 t1' t2 t2'
            have HS := HT
            clear HT
            obtain ⟨f0, f1, f2, f3, f4, f5, f6, _, _, _, _, _⟩ := HS.out.wk
            have hw := word_le (l := l) false hj
            go_wp2_with fail
            go_roundw
            case rel => exact ⟨k + 1, word l j false, by go_num, by go_num, by omega, hw.2, ⟨by rw [← HL.out, wordsN_more l _ h1 h2, hst.out]⟩, HS⟩
            case measure => simp [intOf]; omega
          · skip
            have t2 : decide ((j : Int) < (l.length : Int)) = false := decide_eq_false (by omega)
            have t2' : decide (j < l.length) = false := decide_eq_false (by omega)
            go_wp2_with fail
            refine (c_rest (HS.out.two (by first | exact Below.refl _ _ | exact below_drew (Below.refl _ _))).wk.sl hj).mono ?_
            rintro e w4 ⟨rfl, hd⟩
            have HT := Aside0.mk (HS.out.step (by first | exact Below.refl _ _ | exact below_drew (Below.refl _ _)) hd)
            clear hd f0 f1 f2 f3 f4 f5 f6 HS t1 t1' t2 t2'
            have HS := HT
            clear HT
            obtain ⟨f0, f1, f2, f3, f4, f5, f6, _, _, _, _, _⟩ := HS.out.wk
            by_cases hre : rest l j = i
            · skip
              have te : (((rest l j : Nat) : Int) == ((i : Nat) : Int)) = true := beq_iff_eq.2 (by omega)
              have te' : (((rest l j : Nat) : Int) != ((i : Nat) : Int)) = false := by rw [bne, te]; rfl
              have ten : (rest l j == i) = true := beq_iff_eq.2 (by omega)
              have ten' : (rest l j != i) = false := by rw [bne, ten]; rfl
              have hre0 := Aside0.mk hre
              clear hre
              go_wp2_with (first | (go_at_call 92; refine (must_ok _).mono ?_; rintro e wm ⟨rfl, rfl⟩) | (go_at_call 92; refine (must_no _).mono ?_; rintro e wm ⟨rfl, rfl⟩))
              obtain rfl : none = o := by
                rw [← HO.out, if_pos hs, ← HL.out, wordsN_end l _ (by omega), if_neg (by simp), if_pos hre0.out]
              exact ⟨rfl, rfl, HS.out.bel⟩
            · skip
              have te : (((rest l j : Nat) : Int) == ((i : Nat) : Int)) = false := beq_eq_false_iff_ne.2 (by omega)
              have te' : (((rest l j : Nat) : Int) != ((i : Nat) : Int)) = true := by rw [bne, te]; rfl
              have ten : (rest l j == i) = false := beq_eq_false_iff_ne.2 (by omega)
              have ten' : (rest l j != i) = true := by rw [bne, ten]; rfl
              have hre0 := Aside0.mk hre
              clear hre
              obtain ⟨r0, r1, r2, z⟩ := HS.out.res.cell
              have z0 := z 0
              have z1 := z 1
              have z2 := z 2
              clear z
              go_wp2_with (first | (go_at_call 92; refine (must_ok _).mono ?_; rintro e wm ⟨rfl, rfl⟩) | (go_at_call 92; refine (must_no _).mono ?_; rintro e wm ⟨rfl, rfl⟩))
              exact goal_postG HS.out rfl rfl (by rw [← HO.out, if_pos hs, ← HL.out, wordsN_end l _ (by omega), if_neg (by simp), if_neg hre0.out]; rfl)
        · skip
          have t1 : decide ((k : Int) < (n : Int)) = false := decide_eq_false (by omega)
          have t1' : decide (k < n) = false := decide_eq_false (by omega)
          go_wp2_with fail
          refine (c_rest (HS.out.two (by first | exact Below.refl _ _ | exact below_drew (Below.refl _ _))).wk.sl hj).mono ?_
          rintro e w5 ⟨rfl, hd⟩
          have HT := Aside0.mk (HS.out.step (by first | exact Below.refl _ _ | exact below_drew (Below.refl _ _)) hd)
          clear hd f0 f1 f2 f3 f4 f5 f6 HS t1 t1'
          have HS := HT
          clear HT
          obtain ⟨f0, f1, f2, f3, f4, f5, f6, _, _, _, _, _⟩ := HS.out.wk
          by_cases hre : rest l j = i
          · skip
            have te : (((rest l j : Nat) : Int) == ((i : Nat) : Int)) = true := beq_iff_eq.2 (by omega)
            have te' : (((rest l j : Nat) : Int) != ((i : Nat) : Int)) = false := by rw [bne, te]; rfl
            have ten : (rest l j == i) = true := beq_iff_eq.2 (by omega)
            have ten' : (rest l j != i) = false := by rw [bne, ten]; rfl
            have hre0 := Aside0.mk hre
            clear hre
            go_wp2_with (first | (go_at_call 92; refine (must_ok _).mono ?_; rintro e wm ⟨rfl, rfl⟩) | (go_at_call 92; refine (must_no _).mono ?_; rintro e wm ⟨rfl, rfl⟩))
            obtain rfl : none = o := by
              rw [← HO.out, if_pos hs, ← HL.out, wordsN_end l _ (by omega), if_neg (by simp), if_pos hre0.out]
            exact ⟨rfl, rfl, HS.out.bel⟩
          · skip
            have te : (((rest l j : Nat) : Int) == ((i : Nat) : Int)) = false := beq_eq_false_iff_ne.2 (by omega)
            have te' : (((rest l j : Nat) : Int) != ((i : Nat) : Int)) = true := by rw [bne, te]; rfl
            have ten : (rest l j == i) = false := beq_eq_false_iff_ne.2 (by omega)
            have ten' : (rest l j != i) = true := by rw [bne, ten]; rfl
            have hre0 := Aside0.mk hre
            clear hre
            obtain ⟨r0, r1, r2, z⟩ := HS.out.res.cell
            have z0 := z 0
            have z1 := z 1
            have z2 := z 2
            clear z
            go_wp2_with (first | (go_at_call 92; refine (must_ok _).mono ?_; rintro e wm ⟨rfl, rfl⟩) | (go_at_call 92; refine (must_no _).mono ?_; rintro e wm ⟨rfl, rfl⟩))
            exact goal_postG HS.out rfl rfl (by rw [← HO.out, if_pos hs, ← HL.out, wordsN_end l _ (by omega), if_neg (by simp), if_neg hre0.out]; rfl)
    · skip
      have t0 : decide ((i : Int) < (l.length : Int)) = false := decide_eq_false (by omega)
      have t0' : decide (i < l.length) = false := decide_eq_false (by omega)
      refine region_tail 10 (by kernel_rfl) (by kernel_rfl) _ rfl ?_
      simp only [List.take_succ_cons, List.take_zero, List.drop_succ_cons, List.drop_zero]
      repeat still_step
      refine wpStill_nil ?_
      go_wp2_with (first | (go_at_call 92; refine (must_ok _).mono ?_; rintro e wm ⟨rfl, rfl⟩) | (go_at_call 92; refine (must_no _).mono ?_; rintro e wm ⟨rfl, rfl⟩))
      obtain rfl : none = o := by rw [← HO.out, if_neg hs]
      exact ⟨rfl, rfl, (HS.out.two (below_drew (Below.refl _ _))).bel⟩

set_option maxHeartbeats 1000000 in
set_option maxRecDepth 100000 in
theorem ends_calls (hW : Wk w g A c l i n op key A2 c2 a cn) (o : Option Gl) (h : ((endsN l n i).map incl) = o) :
    Calls Try.prog 65 #[.pointer (some ⟨g, 0, none⟩)] w fun e w' => e = endG o ∧ Below w.heap.size w w' := by
  have HO := Aside0.mk h
  clear h
  have HS := Aside0.mk (St.begin_ hW)
  have hn1 := hW.n1
  have hn2 := hW.n2
  have hi := begins_le hW.beg
  have hsz := hW.sl.ok.size
  clear hW
  obtain ⟨f0, f1, f2, f3, f4, f5, f6, _, _, _, _, _⟩ := HS.out.wk
  go_enter Try.func65, Try.ntmps65
  go_wp2_with fail
  go_loopw [3, 4, 13] (fun v3 v4 v13 wr => ∃ (k j : Nat), v13 = .int .i64 k ∧ v3 = .int .i64 j ∧ k ≤ n ∧ j ≤ l.length ∧ Aside0 ((endsN l (n - k) j).map incl = o) ∧ Aside0 (St w wr w.heap.size (Wk wr g A c l i n op key A2 c2 a cn))) (fun _ _ v13 _ => n - (intOf v13).toNat)
  case atStart => exact ⟨0, i, rfl, rfl, by omega, hi, HO, HS⟩
  case round =>
    clear f0 f1 f2 f3 f4 f5 f6 HS HO
    obtain ⟨k, j, rfl, rfl, hk, hj, HO, HS⟩ := hrel
    obtain ⟨f0, f1, f2, f3, f4, f5, f6, _, _, _, _, _⟩ := HS.out.wk
    by_cases h1 : k < n
    · skip
      have t1 : decide ((k : Int) < (n : Int)) = true := decide_eq_true (by omega)
      have t1' : decide (k < n) = true := decide_eq_true (by omega)
      by_cases h2 : j < l.length
      · skip
        have t2 : decide ((j : Int) < (l.length : Int)) = true := decide_eq_true (by omega)
        have t2' : decide (j < l.length) = true := decide_eq_true (by omega)
        have hg := on_gt h2
        go_wp2_with (first | (go_at_call 92; refine (must_ok _).mono ?_; rintro e wm ⟨rfl, rfl⟩) | (go_at_call 92; refine (must_no _).mono ?_; rintro e wm ⟨rfl, rfl⟩))
        refine (c_on (HS.out.two (by first | exact Below.refl _ _ | exact below_drew (Below.refl _ _))).wk.sl hj).mono ?_
        rintro e w6 ⟨rfl, hd⟩
        have HT := Aside0.mk (HS.out.step (by first | exact Below.refl _ _ | exact below_drew (Below.refl _ _)) hd)
        clear hd f0 f1 f2 f3 f4 f5 f6 HS t1 t1' t2 t2'
        have HS := HT
        clear HT
        obtain ⟨f0, f1, f2, f3, f4, f5, f6, _, _, _, _, _⟩ := HS.out.wk
        go_wp2_with fail
        refine (run_calls (HS.out.two (by first | exact Below.refl _ _ | exact below_drew (Below.refl _ _))).wk (on l j) hg.2.1 0).mono ?_
        rintro e w7 ⟨rfl, hd⟩
        have HT := Aside0.mk (HS.out.step (by first | exact Below.refl _ _ | exact below_drew (Below.refl _ _)) hd)
        clear hd f0 f1 f2 f3 f4 f5 f6 HS
        have HS := HT
        clear HT
        obtain ⟨f0, f1, f2, f3, f4, f5, f6, _, _, _, _, _⟩ := HS.out.wk
        have hr := run_le (l := l) 0 hg.2.1
        by_cases h3 : run l (on l j) 0 < l.length
        · skip
          have t3 : decide ((run l (on l j) 0 : Int) < (l.length : Int)) = true := decide_eq_true (by omega)
          have t3' : decide (run l (on l j) 0 < l.length) = true := decide_eq_true (by omega)
          have ho := run_own h3
          have hg3 := on_gt h3
          have HE := Aside0.mk (endsN_more l h1 h2 h3)
          go_wp2_with (first | (go_at_call 92; refine (must_ok _).mono ?_; rintro e wm ⟨rfl, rfl⟩) | (go_at_call 92; refine (must_no _).mono ?_; rintro e wm ⟨rfl, rfl⟩))
          refine (c_class (HS.out.two (by first | exact Below.refl _ _ | exact below_drew (Below.refl _ _))).wk.sl (run l (on l j) 0)).mono ?_
          rintro e w8 ⟨rfl, hd⟩
          have HT := Aside0.mk (HS.out.step (by first | exact Below.refl _ _ | exact below_drew (Below.refl _ _)) hd)
          clear hd f0 f1 f2 f3 f4 f5 f6 HS t3 t3'
          have HS := HT
          clear HT
          obtain ⟨f0, f1, f2, f3, f4, f5, f6, _, _, _, _, _⟩ := HS.out.wk
          go_wp2_with fail
          refine (run_calls (HS.out.two (by first | exact Below.refl _ _ | exact below_drew (Below.refl _ _))).wk (run l (on l j) 0) (Nat.le_of_lt h3) (kls l (run l (on l j) 0))).mono ?_
          rintro e w9 ⟨rfl, hd⟩
          have HT := Aside0.mk (HS.out.step (by first | exact Below.refl _ _ | exact below_drew (Below.refl _ _)) hd)
          clear hd f0 f1 f2 f3 f4 f5 f6 HS
          have HS := HT
          clear HT
          obtain ⟨f0, f1, f2, f3, f4, f5, f6, _, _, _, _, _⟩ := HS.out.wk
          go_wp2_with fail
          refine (c_last (HS.out.two (by first | exact Below.refl _ _ | exact below_drew (Below.refl _ _))).wk.sl ho.2).mono ?_
          rintro e w10 ⟨rfl, hd⟩
          have HT := Aside0.mk (HS.out.step (by first | exact Below.refl _ _ | exact below_drew (Below.refl _ _)) hd)
          clear hd f0 f1 f2 f3 f4 f5 f6 HS
          have HS := HT
          clear HT
          obtain ⟨f0, f1, f2, f3, f4, f5, f6, _, _, _, _, _⟩ := HS.out.wk
          have hz := lastSz_pos (l := l) (i := run l (run l (on l j) 0) (kls l (run l (on l j) 0))) (by omega) ho.2
          go_wp2_with fail
          go_roundw
          case rel => exact ⟨k + 1, run l (run l (on l j) 0) (kls l (run l (on l j) 0)) - lastSz l (run l (run l (on l j) 0) (kls l (run l (on l j) 0))), by go_num, by go_num, by omega, by omega, ⟨by rw [← HO.out, HE.out]⟩, HS⟩
          case measure => simp [intOf]; omega
        · skip
          have t3 : decide ((run l (on l j) 0 : Int) < (l.length : Int)) = false := decide_eq_false (by omega)
          have t3' : decide (run l (on l j) 0 < l.length) = false := decide_eq_false (by omega)
          go_wp2_with (first | (go_at_call 92; refine (must_ok _).mono ?_; rintro e wm ⟨rfl, rfl⟩) | (go_at_call 92; refine (must_no _).mono ?_; rintro e wm ⟨rfl, rfl⟩))
          obtain rfl : none = o := by rw [← HO.out, endsN_stop2 l h1 h2 h3]; rfl
          exact ⟨rfl, rfl, HS.out.bel⟩
      · skip
        have t2 : decide ((j : Int) < (l.length : Int)) = false := decide_eq_false (by omega)
        have t2' : decide (j < l.length) = false := decide_eq_false (by omega)
        go_wp2_with (first | (go_at_call 92; refine (must_ok _).mono ?_; rintro e wm ⟨rfl, rfl⟩) | (go_at_call 92; refine (must_no _).mono ?_; rintro e wm ⟨rfl, rfl⟩))
        obtain rfl : none = o := by rw [← HO.out, endsN_stop1 l h1 h2]; rfl
        exact ⟨rfl, rfl, HS.out.bel⟩
    · skip
      have t1 : decide ((k : Int) < (n : Int)) = false := decide_eq_false (by omega)
      have t1' : decide (k < n) = false := decide_eq_false (by omega)
      obtain ⟨r0, r1, r2, z⟩ := HS.out.res.cell
      have z0 := z 0
      have z1 := z 1
      have z2 := z 2
      clear z
      go_wp2_with fail
      exact goal_postG HS.out rfl rfl (by rw [← HO.out, show n - k = 0 by omega]; rfl)
end
end Go.Proofs.Ytiibjehnlphabaa

end

section
namespace Go.Proofs.Ytiibjehnlphabaa
open Go.RowKit Go.Proofs.YtiibjehnlphabaaW.PrintWords Go.Proofs.YtiibjehnlphabaaW.PrintMore Q
set_option linter.unusedVariables false
set_option linter.unusedSimpArgs false
section
variable {w : World} {g : Nat} {A : Option Addr} {c : Nat} {l : List Int} {i : Nat} {n : Nat} {op : Bool} {key : ByteArray} {A2 : Option Addr} {c2 : Nat} {a : List Int} {cn : Int}
theorem lineN_more (l : List Int) {m j : Nat} (hk : 0 < m) (h : fin l j < l.length) : lineN l m j = lineN l (m - 1) (fin l j + 1) := by
  obtain ⟨q, rfl⟩ : ∃ q, m = q + 1 := ⟨m - 1, by omega⟩
  simp only [lineN, if_pos h]
  rfl
theorem lineN_end (l : List Int) {m j : Nat} (h : m = 0 ∨ ¬ fin l j < l.length) : lineN l m j = j := by
  cases m with
  | zero => rfl
  | succ m => simp only [lineN]; rw [if_neg (by omega)]
set_option maxHeartbeats 800000 in
set_option maxRecDepth 100000 in
theorem line_calls (hW : Wk w g A c l i n op key A2 c2 a cn) (m : Int) (hm : m ≤ 9223372036854775807) (hm' : -9223372036854775808 ≤ m) (hb : begins l (lineN l (m.toNat - 1) 0) = true) :
    Calls Try.prog 99 #[.pointer (some ⟨g, 0, none⟩), .int .i64 m] w fun e w' => e = .returned (goalV (first l (lineN l (m.toNat - 1) 0)) false true) ∧ Below w.heap.size w w' := by
  have HB := Aside0.mk hb
  clear hb
  have HS := Aside0.mk (St.begin_ hW)
  have hn1 := hW.n1
  have hn2 := hW.n2
  have hi := begins_le hW.beg
  have hsz := hW.sl.ok.size
  clear hW
  obtain ⟨f0, f1, f2, f3, f4, f5, f6, _, _, _, _, _⟩ := HS.out.wk
  go_enter Try.func99, Try.ntmps99
  go_wp2_with fail
  go_loopw [1, 5] (fun v1 v5 wr => ∃ (q : Int) (j : Nat), v1 = .int .i64 q ∧ v5 = .int .i64 j ∧ q ≤ 9223372036854775807 ∧ -9223372036854775808 ≤ q ∧ j ≤ l.length ∧ Aside0 (lineN l (q.toNat - 1) j = lineN l (m.toNat - 1) 0) ∧ Aside0 (St w wr w.heap.size (Wk wr g A c l i n op key A2 c2 a cn))) (fun v1 _ _ => (intOf v1).toNat)
  case atStart => exact ⟨m, 0, rfl, rfl, hm, hm', Nat.zero_le _, ⟨rfl⟩, HS⟩
  case round =>
    clear f0 f1 f2 f3 f4 f5 f6 HS
    obtain ⟨q, j, rfl, rfl, hq, hq', hj, HL, HS⟩ := hrel
    obtain ⟨f0, f1, f2, f3, f4, f5, f6, _, _, _, _, _⟩ := HS.out.wk
    have hf := fin_le hj
    by_cases h1 : 1 < q
    · have t1 : decide (1 < q) = true := decide_eq_true h1
      by_cases h2 : fin l j < l.length
      · skip
        have t2 : decide ((fin l j : Int) < (l.length : Int)) = true := decide_eq_true (by omega)
        have t2' : decide (fin l j < l.length) = true := decide_eq_true (by omega)
        go_wp2_with fail
        go_quiet ((go_at_call 47; exact Calls.quiet_of ((c_end (HS.out.two (pw_below_drewN (Below.refl _ _) _)).wk.sl hj).mono fun e w' h => ⟨h.1, h.2.out⟩)))
        go_wp2_with fail
        refine (c_end (HS.out.two (by first | exact Below.refl _ _ | exact below_drew (Below.refl _ _) | exact pw_below_drewN (Below.refl _ _) _)).wk.sl hj).mono ?_
        rintro e w1 ⟨rfl, hd⟩
        have HT := Aside0.mk (HS.out.step (by first | exact Below.refl _ _ | exact below_drew (Below.refl _ _) | exact pw_below_drewN (Below.refl _ _) _) hd.below)
        clear hd f0 f1 f2 f3 f4 f5 f6 HS t1 t2 t2'
        have HS := HT
        clear HT
        obtain ⟨f0, f1, f2, f3, f4, f5, f6, _, _, _, _, _⟩ := HS.out.wk
        go_wp2_with fail
        go_roundw
        case rel => exact ⟨q - 1, fin l j + 1, by go_num, by go_num, by omega, by omega, by omega, ⟨by rw [← HL.out, lineN_more l (show 0 < q.toNat - 1 by omega) h2, show q.toNat - 1 - 1 = (q - 1).toNat - 1 by omega]⟩, HS⟩
        case measure => simp [intOf]; omega
      · skip
        have t2 : decide ((fin l j : Int) < (l.length : Int)) = false := decide_eq_false (by omega)
        have t2' : decide (fin l j < l.length) = false := decide_eq_false (by omega)
        go_wp2_with fail
        go_quiet ((go_at_call 47; exact Calls.quiet_of ((c_end (HS.out.two (pw_below_drewN (Below.refl _ _) _)).wk.sl hj).mono fun e w' h => ⟨h.1, h.2.out⟩)))
        have he := Aside0.mk (HL.out.symm.trans (lineN_end l (.inr h2)))
        have hjb := Aside0.mk (show begins l j = true by rw [← he.out]; exact HB.out)
        go_wp2_with fail
        refine (c_FirstB (HS.out.two (by first | exact Below.refl _ _ | exact below_drew (Below.refl _ _) | exact pw_below_drewN (Below.refl _ _) _)).wk.sl hjb.out).mono ?_
        rintro e w2 ⟨rfl, hd⟩
        have HT := Aside0.mk (HS.out.step (by first | exact Below.refl _ _ | exact below_drew (Below.refl _ _) | exact pw_below_drewN (Below.refl _ _) _) hd)
        clear hd f0 f1 f2 f3 f4 f5 f6 HS t1 t2 t2'
        have HS := HT
        clear HT
        obtain ⟨f0, f1, f2, f3, f4, f5, f6, _, _, _, _, _⟩ := HS.out.wk
        obtain ⟨r0, r1, r2, z⟩ := HS.out.res.cell
        have z0 := z 0
        have z1 := z 1
        have z2 := z 2
        clear z
        go_wp2_with fail
        exact goal_post HS.out rfl rfl (by rw [he.out])
    · have t1 : decide (1 < q) = false := decide_eq_false h1
      go_wp2_with fail
      go_quiet (fail)
      have he := Aside0.mk (HL.out.symm.trans (lineN_end l (.inl (by omega))))
      have hjb := Aside0.mk (show begins l j = true by rw [← he.out]; exact HB.out)
      go_wp2_with fail
      refine (c_FirstB (HS.out.two (by first | exact Below.refl _ _ | exact below_drew (Below.refl _ _) | exact pw_below_drewN (Below.refl _ _) _)).wk.sl hjb.out).mono ?_
      rintro e w3 ⟨rfl, hd⟩
      have HT := Aside0.mk (HS.out.step (by first | exact Below.refl _ _ | exact below_drew (Below.refl _ _) | exact pw_below_drewN (Below.refl _ _) _) hd)
      clear hd f0 f1 f2 f3 f4 f5 f6 HS t1
      have HS := HT
      clear HT
      obtain ⟨f0, f1, f2, f3, f4, f5, f6, _, _, _, _, _⟩ := HS.out.wk
      obtain ⟨r0, r1, r2, z⟩ := HS.out.res.cell
      have z0 := z 0
      have z1 := z 1
      have z2 := z 2
      clear z
      go_wp2_with fail
      exact goal_post HS.out rfl rfl (by rw [he.out])

set_option maxHeartbeats 400000 in
set_option maxRecDepth 100000 in
theorem last_calls (hW : Wk w g A c l i n op key A2 c2 a cn) (hcn : cn ≤ 9223372036854775807) (hcn' : -9223372036854775808 ≤ cn) (hb : begins l (lineN l (cn.toNat - 1) 0) = true) :
    Calls Try.prog 67 #[.pointer (some ⟨g, 0, none⟩)] w fun e w' => e = endG (some (byLn (first l (if cn < 1 then l.length else lineN l (cn.toNat - 1) 0)))) ∧ Below w.heap.size w w' := by
  have HB := Aside0.mk hb
  clear hb
  by_cases h1 : cn < 1
  · have e0 : (if cn < 1 then l.length else lineN l (cn.toNat - 1) 0) = l.length := if_pos h1
    rw [e0]
    clear e0
    have hlb := Aside0.mk (begins_len l)
    have HS := Aside0.mk (St.begin_ hW)
    have hn1 := hW.n1
    have hn2 := hW.n2
    have hi := begins_le hW.beg
    have hsz := hW.sl.ok.size
    clear hW
    obtain ⟨f0, f1, f2, f3, f4, f5, f6, _, _, _, _, _⟩ := HS.out.wk
    go_enter Try.func67, Try.ntmps67
    have t1 : decide (cn < 1) = true := decide_eq_true h1
    go_wp2_with fail
    refine region_tail 9 (by kernel_rfl) (by kernel_rfl) _ rfl ?_
    simp only [List.take_succ_cons, List.take_zero, List.drop_succ_cons, List.drop_zero]
    repeat still_step
    refine wpStill_nil ?_
    go_wp2_with fail
    refine (c_FirstB (HS.out.two (by first | exact Below.refl _ _ | exact below_drew (Below.refl _ _) | exact pw_below_drewN (Below.refl _ _) _)).wk.sl hlb.out).mono ?_
    rintro e w4 ⟨rfl, hd⟩
    have HT := Aside0.mk (HS.out.step (by first | exact Below.refl _ _ | exact below_drew (Below.refl _ _) | exact pw_below_drewN (Below.refl _ _) _) hd)
    clear hd f0 f1 f2 f3 f4 f5 f6 HS t1
    have HS := HT
    clear HT
    obtain ⟨f0, f1, f2, f3, f4, f5, f6, _, _, _, _, _⟩ := HS.out.wk
    obtain ⟨r0, r1, r2, z⟩ := HS.out.res.cell
    have z0 := z 0
    have z1 := z 1
    have z2 := z 2
    clear z
    go_wp2_with fail
    exact goal_postG HS.out rfl rfl rfl
  · have e0 : (if cn < 1 then l.length else lineN l (cn.toNat - 1) 0) = lineN l (cn.toNat - 1) 0 := if_neg h1
    rw [e0]
    clear e0
    have HS := Aside0.mk (St.begin_ hW)
    have hn1 := hW.n1
    have hn2 := hW.n2
    have hi := begins_le hW.beg
    have hsz := hW.sl.ok.size
    clear hW
    obtain ⟨f0, f1, f2, f3, f4, f5, f6, _, _, _, _, _⟩ := HS.out.wk
    go_enter Try.func67, Try.ntmps67
    have t1 : decide (cn < 1) = false := decide_eq_false h1
    go_wp2_with fail
    refine (line_calls (HS.out.two (by first | exact Below.refl _ _ | exact below_drew (Below.refl _ _) | exact pw_below_drewN (Below.refl _ _) _)).wk cn hcn hcn' HB.out).mono ?_
    rintro e w5 ⟨rfl, hd⟩
    have HT := Aside0.mk (HS.out.step (by first | exact Below.refl _ _ | exact below_drew (Below.refl _ _) | exact pw_below_drewN (Below.refl _ _) _) hd)
    clear hd f0 f1 f2 f3 f4 f5 f6 HS t1
    have HS := HT
    clear HT
    obtain ⟨f0, f1, f2, f3, f4, f5, f6, _, _, _, _, _⟩ := HS.out.wk
    simp only [goalV]
    obtain ⟨r0, r1, r2, z⟩ := HS.out.res.cell
    have z0 := z 0
    have z1 := z 1
    have z2 := z 2
    clear z
    go_wp2_with fail
    exact goal_postG HS.out rfl rfl rfl

set_option maxHeartbeats 400000 in
set_option maxRecDepth 100000 in
theorem first_calls (hW : Wk w g A c l i n op key A2 c2 a cn) (hcn : cn ≤ 9223372036854775807) (hcn' : -9223372036854775808 ≤ cn) (hb : begins l (lineN l (cn.toNat - 1) 0) = true) :
    Calls Try.prog 68 #[.pointer (some ⟨g, 0, none⟩)] w fun e w' => e = endG (some (byLn (first l (lineN l (cn.toNat - 1) 0)))) ∧ Below w.heap.size w w' := by
  have HB := Aside0.mk hb
  clear hb
  have HS := Aside0.mk (St.begin_ hW)
  have hn1 := hW.n1
  have hn2 := hW.n2
  have hi := begins_le hW.beg
  have hsz := hW.sl.ok.size
  clear hW
  obtain ⟨f0, f1, f2, f3, f4, f5, f6, _, _, _, _, _⟩ := HS.out.wk
  go_enter Try.func68, Try.ntmps68
  go_wp2_with fail
  refine (line_calls (HS.out.two (by first | exact Below.refl _ _ | exact below_drew (Below.refl _ _) | exact pw_below_drewN (Below.refl _ _) _)).wk cn hcn hcn' HB.out).mono ?_
  rintro e w6 ⟨rfl, hd⟩
  have HT := Aside0.mk (HS.out.step (by first | exact Below.refl _ _ | exact below_drew (Below.refl _ _) | exact pw_below_drewN (Below.refl _ _) _) hd)
  clear hd f0 f1 f2 f3 f4 f5 f6 HS
  have HS := HT
  clear HT
  obtain ⟨f0, f1, f2, f3, f4, f5, f6, _, _, _, _, _⟩ := HS.out.wk
  simp only [goalV]
  obtain ⟨r0, r1, r2, z⟩ := HS.out.res.cell
  have z0 := z 0
  have z1 := z 1
  have z2 := z 2
  clear z
  go_wp2_with fail
  exact goal_postG HS.out rfl rfl rfl
end
end Go.Proofs.Ytiibjehnlphabaa

end

section
namespace Go.Proofs.Ytiibjehnlphabaa
open Go.RowKit Go.Proofs.YtiibjehnlphabaaW.PrintWords Go.Proofs.YtiibjehnlphabaaW.PrintMore Q
set_option linter.unusedVariables false
set_option linter.unusedSimpArgs false
section
variable {w : World} {g : Nat} {A : Option Addr} {c : Nat} {l : List Int} {i : Nat} {n : Nat} {op : Bool} {key : ByteArray} {A2 : Option Addr} {c2 : Nat} {a : List Int} {cn : Int}
theorem lastSz_le {l : List Int} {j : Nat} (hj : j ≤ l.length) : lastSz l j ≤ j := by
  by_cases h : 1 ≤ j
  · exact (lastSz_pos h hj).2.2
  · unfold lastSz
    rw [if_pos (by omega)]
    omega
theorem goBack_more (p : Nat → Bool) (l : List Int) : ∀ (f f' j : Nat), j ≤ f → j ≤ f' → j ≤ l.length → goBack p l f j = goBack p l f' j
  | 0, 0, _, _, _, _ => rfl
  | 0, f' + 1, j, h, _, _ => by
    simp only [goBack]
    rw [if_neg (by omega)]
  | f + 1, 0, j, _, h, _ => by
    simp only [goBack]
    rw [if_neg (by omega)]
  | f + 1, f' + 1, j, h, h', hl => by
    simp only [goBack]
    by_cases hc : 0 < j ∧ p j = true
    · rw [if_pos hc, if_pos hc]
      have := lastSz_pos (l := l) (i := j) (by omega) hl
      exact goBack_more p l f f' _ (by omega) (by omega) (by omega)
    · rw [if_neg hc, if_neg hc]
def backOn (p : Nat → Bool) (l : List Int) (j : Nat) : Nat := goBack p l j j
theorem backOn_eq (p : Nat → Bool) (l : List Int) {j : Nat} (hj : j ≤ l.length) : backOn p l j = if 0 < j ∧ p j = true then backOn p l (j - lastSz l j) else j := by
  unfold backOn
  cases j with
  | zero => rfl
  | succ j =>
    have := lastSz_pos (l := l) (i := j + 1) (by omega) hj
    simp only [goBack]
    split
    · exact goBack_more p l _ _ _ (by omega) (by omega) (by omega)
    · rfl
theorem backOn_le (p : Nat → Bool) (l : List Int) : ∀ (n j : Nat), j ≤ n → j ≤ l.length → backOn p l j ≤ j
  | 0, j, h, hj => by rw [backOn_eq p l hj, if_neg (by omega)]; omega
  | n + 1, j, h, hj => by
    rw [backOn_eq p l hj]
    split
    · have := lastSz_pos (l := l) (i := j) (by omega) hj
      have := backOn_le p l n (j - lastSz l j) (by omega) (by omega)
      omega
    · exact Nat.le_refl _
def blankB (l : List Int) (j : Nat) : Bool := decide (kls l j = 0)
def back0 (l : List Int) (i : Nat) : Nat := backOn (blankB l) l (i - lastSz l i)
def sameB (l : List Int) (q : Int) (j : Nat) : Bool := decide (kls l (j - lastSz l j) = q)
theorem back_eq (l : List Int) {i : Nat} (hi : i ≤ l.length) : back l i = if kls l (back0 l i) ≠ 0 then backOn (sameB l (kls l (back0 l i))) l (back0 l i) else back0 l i := by
  have e : goBack (fun j => decide (kls l j = 0)) l i (i - lastSz l i) = back0 l i := goBack_more _ l _ _ _ (by omega) (by omega) (by omega)
  unfold back
  simp only [e]
  rfl
theorem back0_le (l : List Int) {i : Nat} (hi : i ≤ l.length) : back0 l i ≤ i := by
  have := backOn_le (blankB l) l _ (i - lastSz l i) (Nat.le_refl _) (by omega)
  unfold back0
  omega
theorem back_le (l : List Int) {i : Nat} (hi : i ≤ l.length) : back l i ≤ i := by
  have h0 := back0_le l hi
  rw [back_eq l hi]
  split
  · have := backOn_le (sameB l (kls l (back0 l i))) l _ (back0 l i) (Nat.le_refl _) (by omega)
    omega
  · exact h0
theorem backsN_more (l : List Int) {n k j : Nat} (hk : k < n) (hj : 0 < j) : backsN l (n - k) j = backsN l (n - (k + 1)) (back l j) := by
  obtain ⟨m, hm⟩ : ∃ m, n - k = m + 1 := ⟨n - k - 1, by omega⟩
  rw [hm, show n - (k + 1) = m by omega]
  simp only [backsN, if_pos hj]
theorem backsN_end (l : List Int) {m j : Nat} (h : m = 0 ∨ ¬ 0 < j) : backsN l m j = j := by
  cases m with
  | zero => rfl
  | succ m => simp only [backsN]; rw [if_neg (by omega)]

structure Sb (w0 w : World) (bp bq g j : Nat) (W : Prop) : Prop where
  wk : W
  bel : Below w0.heap.size w0 w
  np : w0.heap.size ≤ bp
  ne : bp ≠ bq
  ng : bp ≠ g
  cp : w.heap[bp]? = some (.cells #[.int .i64 (j : Int)] 3 (0, 0))
  cq : w.heap[bq]? = some (.cells #[.pointer (some ⟨g, 0, none⟩)] 55 (0, 0))
end
section
variable {w0 w w1 w2 : World} {bp bq g j : Nat} {A : Option Addr} {c : Nat} {l : List Int} {i : Nat} {n : Nat} {op : Bool} {key : ByteArray} {A2 : Option Addr} {c2 : Nat} {a : List Int} {cn : Int}
theorem blk_lt {b : Nat} {o : Obj} (h : w.heap[b]? = some o) : b < w.heap.size := by
  rcases Nat.lt_or_ge b w.heap.size with hlt | hge
  · exact hlt
  · rw [Array.getElem?_eq_none hge] at h; cases h
theorem Sb.two (h : Sb w0 w bp bq g j (Wk w g A c l i n op key A2 c2 a cn)) (h1 : Below w.heap.size w w1) : Sb w0 w1 bp bq g j (Wk w1 g A c l i n op key A2 c2 a cn) :=
  ⟨h.wk.below h1, h.bel.trans (h1.mono h.bel.size), h.np, h.ne, h.ng, (h1.block bp (blk_lt h.cp)).trans h.cp, (h1.block bq (blk_lt h.cq)).trans h.cq⟩
theorem Sb.step (h : Sb w0 w bp bq g j (Wk w g A c l i n op key A2 c2 a cn)) (h1 : Below w.heap.size w w1) (h2 : Below w1.heap.size w1 w2) : Sb w0 w2 bp bq g j (Wk w2 g A c l i n op key A2 c2 a cn) :=
  h.two (h1.trans (h2.mono h1.size))
theorem Sb.cells (h : Sb w0 w bp bq g j (Wk w g A c l i n op key A2 c2 a cn)) : w.cell? ⟨bp, 0, none⟩ = some (.int .i64 (j : Int)) ∧ w.cell? ⟨bq, 0, none⟩ = some (.pointer (some ⟨g, 0, none⟩)) ∧ w.frozen? ⟨bp, 0, none⟩ = false ∧ w.cell? ⟨g, 0, none⟩ = some (.slice A l.length c) := by
  refine ⟨?_, ?_, ?_, h.wk.f0⟩
  · simp [World.cell?, h.cp]
  · simp [World.cell?, h.cq]
  · simp [World.frozen?, h.cp]
theorem Sb.set_ (h : Sb w0 w bp bq g j (Wk w g A c l i n op key A2 c2 a cn)) (hw0 : Wk w0 g A c l i n op key A2 c2 a cn) (j' : Nat) : Sb w0 (w.setCell ⟨bp, 0, none⟩ (.int .i64 (j' : Int))) bp bq g j' (Wk (w.setCell ⟨bp, 0, none⟩ (.int .i64 (j' : Int))) g A c l i n op key A2 c2 a cn) := by
  have hb : Below w0.heap.size w0 (w.setCell ⟨bp, 0, none⟩ (.int .i64 (j' : Int))) := h.bel.setCell (p := ⟨bp, 0, none⟩) h.np _
  have hbl := blk_lt h.cp
  refine ⟨hw0.below hb, hb, h.np, h.ne, h.ng, ?_, ?_⟩
  · simp [World.setCell, Array.getElem?_modify, h.cp]
  · rw [show (w.setCell ⟨bp, 0, none⟩ (.int .i64 (j' : Int))).heap[bq]? = w.heap[bq]? from Below.heap_setCell w ⟨bp, 0, none⟩ _ bq (fun e => h.ne e.symm)]
    exact h.cq
theorem sb_begin (h : Wk w g A c l i n op key A2 c2 a cn) (m : Nat) : Sb w ((w.alloc (.cells #[.pointer (some ⟨g, 0, none⟩)] 55)).alloc (.cells #[.int .i64 (m : Int)] 3)) (w.heap.size + 1) w.heap.size g m (Wk ((w.alloc (.cells #[.pointer (some ⟨g, 0, none⟩)] 55)).alloc (.cells #[.int .i64 (m : Int)] 3)) g A c l i n op key A2 c2 a cn) := by
  have hb : Below w.heap.size w ((w.alloc (.cells #[.pointer (some ⟨g, 0, none⟩)] 55)).alloc (.cells #[.int .i64 (m : Int)] 3)) := below_alloc (below_alloc (Below.refl _ _) _) _
  have hlt := h.lt
  refine ⟨h.below hb, hb, by omega, by omega, by omega, ?_, ?_⟩
  · have := heap_alloc_new (w.alloc (.cells #[.pointer (some ⟨g, 0, none⟩)] 55)) (.cells #[.int .i64 (m : Int)] 3)
    simpa using this
  · rw [Below.heap_alloc _ _ _ (by simp)]
    exact heap_alloc_new w _

set_option maxHeartbeats 400000 in
set_option maxRecDepth 100000 in
theorem ahead1_calls (hS : Sb w0 w bp bq g j (Wk w g A c l i n op key A2 c2 a cn)) (hj : j ≤ l.length) :
    Calls Try.prog 115 #[.pointer (some ⟨bp, 0, none⟩), .pointer (some ⟨bq, 0, none⟩)] w fun e w' => e = .returned (.int .i64 ((j - lastSz l j : Nat) : Int)) ∧ Below w.heap.size w w' := by
  have hle := lastSz_le hj
  have hsz := hS.wk.sl.ok.size
  have HS := Aside0.mk hS
  clear hS
  have e1 : IntKind.i64.wrap ((j : Int) - (lastSz l j : Int)) = ((j - lastSz l j : Nat) : Int) := by rw [IntWalk.i64_in _ (by omega)]; omega
  go_enter Try.func115, Try.ntmps115
  go_wp2_with fail
  go_region_held3 (fun w' => w'.cell? ⟨bp, 0, none⟩ = some (.int .i64 (j : Int)) ∧ w'.cell? ⟨bq, 0, none⟩ = some (.pointer (some ⟨g, 0, none⟩)) ∧ w'.cell? ⟨g, 0, none⟩ = some (.slice A l.length c)) (first | exact ⟨HS.out.cells.1, HS.out.cells.2.1, HS.out.wk.f0⟩ | exact ⟨(HS.out.two (below_drew (Below.refl _ _))).cells.1, (HS.out.two (below_drew (Below.refl _ _))).cells.2.1, (HS.out.two (below_drew (Below.refl _ _))).wk.f0⟩)
    (first | (go_at_call 83; refine (c_last (HS.out.two (by first | exact Below.refl _ _ | exact below_drew (Below.refl _ _) | exact pw_below_drewN (Below.refl _ _) _)).wk.sl hj).mono ?_; rintro e w1 ⟨rfl, hd⟩; have HB := Aside0.mk (show Below w.heap.size w _ from (below_drew (Below.refl w.heap.size w)).trans hd); have HT := Aside0.mk (HS.out.step (by first | exact Below.refl _ _ | exact below_drew (Below.refl _ _) | exact pw_below_drewN (Below.refl _ _) _) hd); clear hd HS; have HS := HT; clear HT))
  go_wp2_with fail
  go_ret
  exact ⟨rfl, HB.out⟩

set_option maxHeartbeats 2000000 in
set_option maxRecDepth 100000 in
theorem back_calls (hW : Wk w g A c l i n op key A2 c2 a cn) (m : Nat) (hm : m ≤ l.length) :
    Calls Try.prog 98 #[.pointer (some ⟨g, 0, none⟩), .int .i64 (m : Int)] w fun e w' => e = .returned (.int .i64 (back l m : Int)) ∧ Below w.heap.size w w' := by
  have HW0 := Aside0.mk hW
  have hsz := hW.sl.ok.size
  have hgl := hW.lt
  have hle := lastSz_le hm
  have HS := Aside0.mk (sb_begin hW m)
  clear hW
  obtain ⟨x0, x1, x2, x3⟩ := HS.out.cells
  go_enter Try.func98, Try.ntmps98
  go_wp2_with fail
  refine (ahead1_calls (HS.out.two (by first | exact Below.refl _ _ | exact below_drew (Below.refl _ _) | exact pw_below_drewN (Below.refl _ _) _)) hm).mono ?_
  rintro e w12 ⟨rfl, hd⟩
  have HT := Aside0.mk (HS.out.step (by first | exact Below.refl _ _ | exact below_drew (Below.refl _ _) | exact pw_below_drewN (Below.refl _ _) _) hd)
  clear hd x0 x1 x2 x3 HS
  have HS := HT
  clear HT
  obtain ⟨x0, x1, x2, x3⟩ := HS.out.cells
  go_wp2_with fail
  have HS2 := Aside0.mk (HS.out.set_ HW0.out (m - lastSz l m))
  clear HS x0 x1 x2 x3
  have HS := HS2
  clear HS2
  go_loopg [10] (m - lastSz l m) (fun gk v10 wr => ∃ (j : Nat), j ≤ gk ∧ j ≤ l.length ∧ Aside0 (backOn (blankB l) l j = back0 l m) ∧ Aside0 (Sb w wr (w.heap.size + 1) w.heap.size g j (Wk wr g A c l i n op key A2 c2 a cn)))
  case atStart => exact ⟨m - lastSz l m, Nat.le_refl _, by omega, ⟨rfl⟩, HS⟩
  case round =>
    clear HS
    obtain ⟨j, hjg, hj, HL, HS⟩ := hrel
    by_cases h1 : 0 < j
    · have t1 : decide ((0 : Int) < (j : Int)) = true := decide_eq_true (by omega)
      have t1' : decide (0 < j) = true := decide_eq_true h1
      have hz := lastSz_pos (l := l) (i := j) (by omega) hj
      by_cases h2 : kls l j = 0
      · have t2 : (kls l j == 0) = true := beq_iff_eq.2 h2
        have hp := Aside0.mk (show backOn (blankB l) l (j - lastSz l j) = back0 l m by rw [← HL.out, backOn_eq _ l hj, if_pos ⟨h1, by simp [blankB, h2]⟩])
        clear h2 HL
        go_wp2_with fail
        go_region_held3 (fun w' => w'.cell? ⟨w.heap.size + 1, 0, none⟩ = some (.int .i64 (j : Int)) ∧ w'.cell? ⟨w.heap.size, 0, none⟩ = some (.pointer (some ⟨g, 0, none⟩)) ∧ w'.cell? ⟨g, 0, none⟩ = some (.slice A l.length c)) (first | exact ⟨HS.out.cells.1, HS.out.cells.2.1, HS.out.wk.f0⟩ | exact ⟨(HS.out.two (below_drew (Below.refl _ _))).cells.1, (HS.out.two (below_drew (Below.refl _ _))).cells.2.1, (HS.out.two (below_drew (Below.refl _ _))).wk.f0⟩)
          (first | (go_at_call 49; refine (c_class (HS.out.two (by first | exact Below.refl _ _ | exact below_drew (Below.refl _ _) | exact pw_below_drewN (Below.refl _ _) _)).wk.sl j).mono ?_; rintro e w4 ⟨rfl, hd⟩; have HT := Aside0.mk (HS.out.step (by first | exact Below.refl _ _ | exact below_drew (Below.refl _ _) | exact pw_below_drewN (Below.refl _ _) _) hd); clear hd HS; have HS := HT; clear HT))
        obtain ⟨x0, x1, x2, x3⟩ := HS.out.cells
        go_wp2_with fail
        refine (ahead1_calls (HS.out.two (by first | exact Below.refl _ _ | exact below_drew (Below.refl _ _) | exact pw_below_drewN (Below.refl _ _) _)) hj).mono ?_
        rintro e w3 ⟨rfl, hd⟩
        have HT := Aside0.mk (HS.out.step (by first | exact Below.refl _ _ | exact below_drew (Below.refl _ _) | exact pw_below_drewN (Below.refl _ _) _) hd)
        clear hd x0 x1 x2 x3 HS
        have HS := HT
        clear HT
        obtain ⟨x0, x1, x2, x3⟩ := HS.out.cells
        go_wp2_with fail
        have HS2 := Aside0.mk (HS.out.set_ HW0.out (j - lastSz l j))
        clear HS x0 x1 x2 x3
        have HS := HS2
        clear HS2
        go_roundg (j - lastSz l j)
        case measure => omega
        case rel => exact ⟨j - lastSz l j, Nat.le_refl _, by omega, hp, HS⟩
      · have t2 : (kls l j == 0) = false := beq_eq_false_iff_ne.2 h2
        have he := Aside0.mk (show j = back0 l m by rw [← HL.out, backOn_eq _ l hj, if_neg (by simp [blankB, h2])])
        clear h2 HL
        go_wp2_with fail
        go_region_held3 (fun w' => w'.cell? ⟨w.heap.size + 1, 0, none⟩ = some (.int .i64 (j : Int)) ∧ w'.cell? ⟨w.heap.size, 0, none⟩ = some (.pointer (some ⟨g, 0, none⟩)) ∧ w'.cell? ⟨g, 0, none⟩ = some (.slice A l.length c)) (first | exact ⟨HS.out.cells.1, HS.out.cells.2.1, HS.out.wk.f0⟩ | exact ⟨(HS.out.two (below_drew (Below.refl _ _))).cells.1, (HS.out.two (below_drew (Below.refl _ _))).cells.2.1, (HS.out.two (below_drew (Below.refl _ _))).wk.f0⟩)
          (first | (go_at_call 49; refine (c_class (HS.out.two (by first | exact Below.refl _ _ | exact below_drew (Below.refl _ _) | exact pw_below_drewN (Below.refl _ _) _)).wk.sl j).mono ?_; rintro e w5 ⟨rfl, hd⟩; have HT := Aside0.mk (HS.out.step (by first | exact Below.refl _ _ | exact below_drew (Below.refl _ _) | exact pw_below_drewN (Below.refl _ _) _) hd); clear hd HS; have HS := HT; clear HT))
        obtain ⟨x0, x1, x2, x3⟩ := HS.out.cells
        go_wp2_with fail
        clear t2 t1 t1'
        refine region_tail 5 (by kernel_rfl) (by kernel_rfl) _ rfl ?_
        simp only [List.take_succ_cons, List.take_zero, List.drop_succ_cons, List.drop_zero]
        repeat still_step
        refine wpStill_nil ?_
        go_wp2_with fail
        refine (c_class (HS.out.two (by first | exact Below.refl _ _ | exact below_drew (Below.refl _ _) | exact pw_below_drewN (Below.refl _ _) _)).wk.sl j).mono ?_
        rintro e w11 ⟨rfl, hd⟩
        have HT := Aside0.mk (HS.out.step (by first | exact Below.refl _ _ | exact below_drew (Below.refl _ _) | exact pw_below_drewN (Below.refl _ _) _) hd)
        clear hd x0 x1 x2 x3 HS
        have HS := HT
        clear HT
        obtain ⟨x0, x1, x2, x3⟩ := HS.out.cells
        go_wp2_with fail
        by_cases hc : kls l j = 0
        · skip
          have t5 : (kls l j != 0) = false := by rw [bne, beq_iff_eq.2 hc]; rfl
          have hc0 := Aside0.mk hc
          clear hc
          go_loopg [29] 0 (fun gk v29 wr => Aside0 (Sb w wr (w.heap.size + 1) w.heap.size g j (Wk wr g A c l i n op key A2 c2 a cn)))
          case atStart => exact HS
          case round =>
            clear HS x0 x1 x2 x3
            have HS := hrel
            obtain ⟨x0, x1, x2, x3⟩ := HS.out.cells
            go_wp2_with fail
            go_quiet (fail)
            go_wp2_with fail
            go_ret
            exact ⟨by rw [back_eq l hm, ← he.out, if_neg (by simp [hc0.out])]; rfl, (HS.out.two (pw_below_drewN (Below.refl _ _) _)).bel⟩
        · skip
          have t5 : (kls l j != 0) = true := by rw [bne, beq_eq_false_iff_ne.2 hc]; rfl
          have hc0 := Aside0.mk hc
          clear hc
          go_loopg [29] j (fun gk v29 wr => ∃ (q : Nat), q ≤ gk ∧ q ≤ l.length ∧ Aside0 (backOn (sameB l (kls l j)) l q = backOn (sameB l (kls l j)) l j) ∧ Aside0 (Sb w wr (w.heap.size + 1) w.heap.size g q (Wk wr g A c l i n op key A2 c2 a cn)))
          case atStart => exact ⟨j, Nat.le_refl _, hj, ⟨rfl⟩, HS⟩
          case round =>
            clear HS x0 x1 x2 x3
            obtain ⟨q, hqg, hq, HQ, HS⟩ := hrel
            obtain ⟨x0, x1, x2, x3⟩ := HS.out.cells
            by_cases h2 : 0 < q
            · have t2 : decide ((0 : Int) < (q : Int)) = true := decide_eq_true (by omega)
              have t2' : decide (0 < q) = true := decide_eq_true h2
              have hzq := lastSz_pos (l := l) (i := q) (by omega) hq
              by_cases h3 : kls l (q - lastSz l q) = kls l j
              · have t3 : (kls l (q - lastSz l q) == kls l j) = true := beq_iff_eq.2 h3
                have hp := Aside0.mk (show backOn (sameB l (kls l j)) l (q - lastSz l q) = backOn (sameB l (kls l j)) l j by rw [← HQ.out, backOn_eq _ l hq, if_pos ⟨h2, by simp [sameB, h3]⟩])
                clear h3 HQ x0 x1 x2 x3
                go_wp2_with fail
                go_region_held3 (fun w' => w'.cell? ⟨w.heap.size + 1, 0, none⟩ = some (.int .i64 (q : Int)) ∧ w'.cell? ⟨w.heap.size, 0, none⟩ = some (.pointer (some ⟨g, 0, none⟩)) ∧ w'.cell? ⟨g, 0, none⟩ = some (.slice A l.length c)) (first | exact ⟨HS.out.cells.1, HS.out.cells.2.1, HS.out.wk.f0⟩ | exact ⟨(HS.out.two (below_drew (Below.refl _ _))).cells.1, (HS.out.two (below_drew (Below.refl _ _))).cells.2.1, (HS.out.two (below_drew (Below.refl _ _))).wk.f0⟩)
                  (first | (go_at_call 115; refine (ahead1_calls (HS.out.two (by first | exact Below.refl _ _ | exact below_drew (Below.refl _ _) | exact pw_below_drewN (Below.refl _ _) _)) hq).mono ?_; rintro e w7 ⟨rfl, hd⟩; have HT := Aside0.mk (HS.out.step (by first | exact Below.refl _ _ | exact below_drew (Below.refl _ _) | exact pw_below_drewN (Below.refl _ _) _) hd); clear hd HS; have HS := HT; clear HT) | (go_at_call 49; refine (c_class (HS.out.two (by first | exact Below.refl _ _ | exact below_drew (Below.refl _ _) | exact pw_below_drewN (Below.refl _ _) _)).wk.sl (q - lastSz l q)).mono ?_; rintro e w8 ⟨rfl, hd⟩; have HT := Aside0.mk (HS.out.step (by first | exact Below.refl _ _ | exact below_drew (Below.refl _ _) | exact pw_below_drewN (Below.refl _ _) _) hd); clear hd HS; have HS := HT; clear HT))
                obtain ⟨x0, x1, x2, x3⟩ := HS.out.cells
                go_wp2_with fail
                refine (ahead1_calls (HS.out.two (by first | exact Below.refl _ _ | exact below_drew (Below.refl _ _) | exact pw_below_drewN (Below.refl _ _) _)) hq).mono ?_
                rintro e w6 ⟨rfl, hd⟩
                have HT := Aside0.mk (HS.out.step (by first | exact Below.refl _ _ | exact below_drew (Below.refl _ _) | exact pw_below_drewN (Below.refl _ _) _) hd)
                clear hd x0 x1 x2 x3 HS
                have HS := HT
                clear HT
                obtain ⟨x0, x1, x2, x3⟩ := HS.out.cells
                go_wp2_with fail
                have HS2 := Aside0.mk (HS.out.set_ HW0.out (q - lastSz l q))
                clear HS x0 x1 x2 x3
                have HS := HS2
                clear HS2
                go_roundg (q - lastSz l q)
                case measure => omega
                case rel => exact ⟨q - lastSz l q, Nat.le_refl _, by omega, hp, HS⟩
              · have t3 : (kls l (q - lastSz l q) == kls l j) = false := beq_eq_false_iff_ne.2 h3
                have hp := Aside0.mk (show q = backOn (sameB l (kls l j)) l j by rw [← HQ.out, backOn_eq _ l hq, if_neg (by simp [sameB, h3])])
                clear h3 HQ x0 x1 x2 x3
                go_wp2_with fail
                go_region_held3 (fun w' => w'.cell? ⟨w.heap.size + 1, 0, none⟩ = some (.int .i64 (q : Int)) ∧ w'.cell? ⟨w.heap.size, 0, none⟩ = some (.pointer (some ⟨g, 0, none⟩)) ∧ w'.cell? ⟨g, 0, none⟩ = some (.slice A l.length c)) (first | exact ⟨HS.out.cells.1, HS.out.cells.2.1, HS.out.wk.f0⟩ | exact ⟨(HS.out.two (below_drew (Below.refl _ _))).cells.1, (HS.out.two (below_drew (Below.refl _ _))).cells.2.1, (HS.out.two (below_drew (Below.refl _ _))).wk.f0⟩)
                  (first | (go_at_call 115; refine (ahead1_calls (HS.out.two (by first | exact Below.refl _ _ | exact below_drew (Below.refl _ _) | exact pw_below_drewN (Below.refl _ _) _)) hq).mono ?_; rintro e w9 ⟨rfl, hd⟩; have HT := Aside0.mk (HS.out.step (by first | exact Below.refl _ _ | exact below_drew (Below.refl _ _) | exact pw_below_drewN (Below.refl _ _) _) hd); clear hd HS; have HS := HT; clear HT) | (go_at_call 49; refine (c_class (HS.out.two (by first | exact Below.refl _ _ | exact below_drew (Below.refl _ _) | exact pw_below_drewN (Below.refl _ _) _)).wk.sl (q - lastSz l q)).mono ?_; rintro e w10 ⟨rfl, hd⟩; have HT := Aside0.mk (HS.out.step (by first | exact Below.refl _ _ | exact below_drew (Below.refl _ _) | exact pw_below_drewN (Below.refl _ _) _) hd); clear hd HS; have HS := HT; clear HT))
                obtain ⟨x0, x1, x2, x3⟩ := HS.out.cells
                go_wp2_with fail
                go_ret
                exact ⟨by rw [back_eq l hm, ← he.out, if_pos hc0.out, ← hp.out]; rfl, HS.out.bel⟩
            · have t2 : decide ((0 : Int) < (q : Int)) = false := decide_eq_false (by omega)
              have t2' : decide (0 < q) = false := decide_eq_false h2
              have hp := Aside0.mk (show q = backOn (sameB l (kls l j)) l j by rw [← HQ.out, backOn_eq _ l hq, if_neg (by omega)])
              clear HQ
              go_wp2_with fail
              go_quiet (fail)
              go_wp2_with fail
              go_ret
              exact ⟨by rw [back_eq l hm, ← he.out, if_pos hc0.out, ← hp.out]; rfl, (HS.out.two (pw_below_drewN (Below.refl _ _) _)).bel⟩
    · have t1 : decide ((0 : Int) < (j : Int)) = false := decide_eq_false (by omega)
      have t1' : decide (0 < j) = false := decide_eq_false h1
      have he := Aside0.mk (show j = back0 l m by rw [← HL.out, backOn_eq _ l hj, if_neg (by omega)])
      clear HL
      obtain ⟨x0, x1, x2, x3⟩ := HS.out.cells
      go_wp2_with fail
      go_quiet (fail)
      go_wp2_with fail
      clear t1 t1'
      refine region_tail 5 (by kernel_rfl) (by kernel_rfl) _ rfl ?_
      simp only [List.take_succ_cons, List.take_zero, List.drop_succ_cons, List.drop_zero]
      repeat still_step
      refine wpStill_nil ?_
      go_wp2_with fail
      refine (c_class (HS.out.two (by first | exact Below.refl _ _ | exact below_drew (Below.refl _ _) | exact pw_below_drewN (Below.refl _ _) _)).wk.sl j).mono ?_
      rintro e w11 ⟨rfl, hd⟩
      have HT := Aside0.mk (HS.out.step (by first | exact Below.refl _ _ | exact below_drew (Below.refl _ _) | exact pw_below_drewN (Below.refl _ _) _) hd)
      clear hd x0 x1 x2 x3 HS
      have HS := HT
      clear HT
      obtain ⟨x0, x1, x2, x3⟩ := HS.out.cells
      go_wp2_with fail
      by_cases hc : kls l j = 0
      · skip
        have t5 : (kls l j != 0) = false := by rw [bne, beq_iff_eq.2 hc]; rfl
        have hc0 := Aside0.mk hc
        clear hc
        go_loopg [29] 0 (fun gk v29 wr => Aside0 (Sb w wr (w.heap.size + 1) w.heap.size g j (Wk wr g A c l i n op key A2 c2 a cn)))
        case atStart => exact HS
        case round =>
          clear HS x0 x1 x2 x3
          have HS := hrel
          obtain ⟨x0, x1, x2, x3⟩ := HS.out.cells
          go_wp2_with fail
          go_quiet (fail)
          go_wp2_with fail
          go_ret
          exact ⟨by rw [back_eq l hm, ← he.out, if_neg (by simp [hc0.out])]; rfl, (HS.out.two (pw_below_drewN (Below.refl _ _) _)).bel⟩
      · skip
        have t5 : (kls l j != 0) = true := by rw [bne, beq_eq_false_iff_ne.2 hc]; rfl
        have hc0 := Aside0.mk hc
        clear hc
        go_loopg [29] j (fun gk v29 wr => ∃ (q : Nat), q ≤ gk ∧ q ≤ l.length ∧ Aside0 (backOn (sameB l (kls l j)) l q = backOn (sameB l (kls l j)) l j) ∧ Aside0 (Sb w wr (w.heap.size + 1) w.heap.size g q (Wk wr g A c l i n op key A2 c2 a cn)))
        case atStart => exact ⟨j, Nat.le_refl _, hj, ⟨rfl⟩, HS⟩
        case round =>
          clear HS x0 x1 x2 x3
          obtain ⟨q, hqg, hq, HQ, HS⟩ := hrel
          obtain ⟨x0, x1, x2, x3⟩ := HS.out.cells
          by_cases h2 : 0 < q
          · have t2 : decide ((0 : Int) < (q : Int)) = true := decide_eq_true (by omega)
            have t2' : decide (0 < q) = true := decide_eq_true h2
            have hzq := lastSz_pos (l := l) (i := q) (by omega) hq
            by_cases h3 : kls l (q - lastSz l q) = kls l j
            · have t3 : (kls l (q - lastSz l q) == kls l j) = true := beq_iff_eq.2 h3
              have hp := Aside0.mk (show backOn (sameB l (kls l j)) l (q - lastSz l q) = backOn (sameB l (kls l j)) l j by rw [← HQ.out, backOn_eq _ l hq, if_pos ⟨h2, by simp [sameB, h3]⟩])
              clear h3 HQ x0 x1 x2 x3
              go_wp2_with fail
              go_region_held3 (fun w' => w'.cell? ⟨w.heap.size + 1, 0, none⟩ = some (.int .i64 (q : Int)) ∧ w'.cell? ⟨w.heap.size, 0, none⟩ = some (.pointer (some ⟨g, 0, none⟩)) ∧ w'.cell? ⟨g, 0, none⟩ = some (.slice A l.length c)) (first | exact ⟨HS.out.cells.1, HS.out.cells.2.1, HS.out.wk.f0⟩ | exact ⟨(HS.out.two (below_drew (Below.refl _ _))).cells.1, (HS.out.two (below_drew (Below.refl _ _))).cells.2.1, (HS.out.two (below_drew (Below.refl _ _))).wk.f0⟩)
                (first | (go_at_call 115; refine (ahead1_calls (HS.out.two (by first | exact Below.refl _ _ | exact below_drew (Below.refl _ _) | exact pw_below_drewN (Below.refl _ _) _)) hq).mono ?_; rintro e w7 ⟨rfl, hd⟩; have HT := Aside0.mk (HS.out.step (by first | exact Below.refl _ _ | exact below_drew (Below.refl _ _) | exact pw_below_drewN (Below.refl _ _) _) hd); clear hd HS; have HS := HT; clear HT) | (go_at_call 49; refine (c_class (HS.out.two (by first | exact Below.refl _ _ | exact below_drew (Below.refl _ _) | exact pw_below_drewN (Below.refl _ _) _)).wk.sl (q - lastSz l q)).mono ?_; rintro e w8 ⟨rfl, hd⟩; have HT := Aside0.mk (HS.out.step (by first | exact Below.refl _ _ | exact below_drew (Below.refl _ _) | exact pw_below_drewN (Below.refl _ _) _) hd); clear hd HS; have HS := HT; clear HT))
              obtain ⟨x0, x1, x2, x3⟩ := HS.out.cells
              go_wp2_with fail
              refine (ahead1_calls (HS.out.two (by first | exact Below.refl _ _ | exact below_drew (Below.refl _ _) | exact pw_below_drewN (Below.refl _ _) _)) hq).mono ?_
              rintro e w6 ⟨rfl, hd⟩
              have HT := Aside0.mk (HS.out.step (by first | exact Below.refl _ _ | exact below_drew (Below.refl _ _) | exact pw_below_drewN (Below.refl _ _) _) hd)
              clear hd x0 x1 x2 x3 HS
              have HS := HT
              clear HT
              obtain ⟨x0, x1, x2, x3⟩ := HS.out.cells
              go_wp2_with fail
              have HS2 := Aside0.mk (HS.out.set_ HW0.out (q - lastSz l q))
              clear HS x0 x1 x2 x3
              have HS := HS2
              clear HS2
              go_roundg (q - lastSz l q)
              case measure => omega
              case rel => exact ⟨q - lastSz l q, Nat.le_refl _, by omega, hp, HS⟩
            · have t3 : (kls l (q - lastSz l q) == kls l j) = false := beq_eq_false_iff_ne.2 h3
              have hp := Aside0.mk (show q = backOn (sameB l (kls l j)) l j by rw [← HQ.out, backOn_eq _ l hq, if_neg (by simp [sameB, h3])])
              clear h3 HQ x0 x1 x2 x3
              go_wp2_with fail
              go_region_held3 (fun w' => w'.cell? ⟨w.heap.size + 1, 0, none⟩ = some (.int .i64 (q : Int)) ∧ w'.cell? ⟨w.heap.size, 0, none⟩ = some (.pointer (some ⟨g, 0, none⟩)) ∧ w'.cell? ⟨g, 0, none⟩ = some (.slice A l.length c)) (first | exact ⟨HS.out.cells.1, HS.out.cells.2.1, HS.out.wk.f0⟩ | exact ⟨(HS.out.two (below_drew (Below.refl _ _))).cells.1, (HS.out.two (below_drew (Below.refl _ _))).cells.2.1, (HS.out.two (below_drew (Below.refl _ _))).wk.f0⟩)
                (first | (go_at_call 115; refine (ahead1_calls (HS.out.two (by first | exact Below.refl _ _ | exact below_drew (Below.refl _ _) | exact pw_below_drewN (Below.refl _ _) _)) hq).mono ?_; rintro e w9 ⟨rfl, hd⟩; have HT := Aside0.mk (HS.out.step (by first | exact Below.refl _ _ | exact below_drew (Below.refl _ _) | exact pw_below_drewN (Below.refl _ _) _) hd); clear hd HS; have HS := HT; clear HT) | (go_at_call 49; refine (c_class (HS.out.two (by first | exact Below.refl _ _ | exact below_drew (Below.refl _ _) | exact pw_below_drewN (Below.refl _ _) _)).wk.sl (q - lastSz l q)).mono ?_; rintro e w10 ⟨rfl, hd⟩; have HT := Aside0.mk (HS.out.step (by first | exact Below.refl _ _ | exact below_drew (Below.refl _ _) | exact pw_below_drewN (Below.refl _ _) _) hd); clear hd HS; have HS := HT; clear HT))
              obtain ⟨x0, x1, x2, x3⟩ := HS.out.cells
              go_wp2_with fail
              go_ret
              exact ⟨by rw [back_eq l hm, ← he.out, if_pos hc0.out, ← hp.out]; rfl, HS.out.bel⟩
          · have t2 : decide ((0 : Int) < (q : Int)) = false := decide_eq_false (by omega)
            have t2' : decide (0 < q) = false := decide_eq_false h2
            have hp := Aside0.mk (show q = backOn (sameB l (kls l j)) l j by rw [← HQ.out, backOn_eq _ l hq, if_neg (by omega)])
            clear HQ
            go_wp2_with fail
            go_quiet (fail)
            go_wp2_with fail
            go_ret
            exact ⟨by rw [back_eq l hm, ← he.out, if_pos hc0.out, ← hp.out]; rfl, (HS.out.two (pw_below_drewN (Below.refl _ _) _)).bel⟩
end
end Go.Proofs.Ytiibjehnlphabaa

end

section
namespace Go.Proofs.Ytiibjehnlphabaa
open Go.RowKit Go.Proofs.YtiibjehnlphabaaW.PrintWords Go.Proofs.YtiibjehnlphabaaW.PrintMore Q
set_option linter.unusedVariables false
set_option linter.unusedSimpArgs false
section
variable {w : World} {g : Nat} {A : Option Addr} {c : Nat} {l : List Int} {i : Nat} {n : Nat} {op : Bool} {key : ByteArray} {A2 : Option Addr} {c2 : Nat} {a : List Int} {cn : Int}
set_option maxHeartbeats 800000 in
set_option maxRecDepth 100000 in
theorem backs_calls (hW : Wk w g A c l i n op key A2 c2 a cn) (o : Option Gl) (h : (if 0 < i then some (plain_ (backsN l n i)) else none) = o) :
    Calls Try.prog 66 #[.pointer (some ⟨g, 0, none⟩)] w fun e w' => e = endG o ∧ Below w.heap.size w w' := by
  have HO := Aside0.mk h
  clear h
  have HS := Aside0.mk (St.begin_ hW)
  have hn1 := hW.n1
  have hn2 := hW.n2
  have hi := begins_le hW.beg
  have hsz := hW.sl.ok.size
  clear hW
  obtain ⟨f0, f1, f2, f3, f4, f5, f6, _, _, _, _, _⟩ := HS.out.wk
  go_enter Try.func66, Try.ntmps66
  by_cases hs : 0 < i
  · have t0 : decide ((0 : Int) < (i : Int)) = true := decide_eq_true (by omega)
    have t0' : decide (0 < i) = true := decide_eq_true hs
    go_wp2_with (first | (go_at_call 92; refine (must_ok _).mono ?_; rintro e wm ⟨rfl, rfl⟩) | (go_at_call 92; refine (must_no _).mono ?_; rintro e wm ⟨rfl, rfl⟩))
    clear t0 t0'
    go_loopw [3, 4] (fun v3 v4 wr => ∃ (k j : Nat), v4 = .int .i64 k ∧ v3 = .int .i64 j ∧ k ≤ n ∧ j ≤ l.length ∧ Aside0 (backsN l (n - k) j = backsN l n i) ∧ Aside0 (St w wr w.heap.size (Wk wr g A c l i n op key A2 c2 a cn))) (fun _ v4 _ => n - (intOf v4).toNat)
    case atStart => exact ⟨0, i, rfl, rfl, by omega, hi, ⟨rfl⟩, HS⟩
    case round =>
      clear f0 f1 f2 f3 f4 f5 f6 HS
      obtain ⟨k, j, rfl, rfl, hk, hj, HL, HS⟩ := hrel
      obtain ⟨f0, f1, f2, f3, f4, f5, f6, _, _, _, _, _⟩ := HS.out.wk
      by_cases h1 : k < n
      · skip
        have t1 : decide ((k : Int) < (n : Int)) = true := decide_eq_true (by omega)
        have t1' : decide (k < n) = true := decide_eq_true (by omega)
        by_cases h2 : 0 < j
        · have t2 : decide ((0 : Int) < (j : Int)) = true := decide_eq_true (by omega)
          have t2' : decide (0 < j) = true := decide_eq_true h2
          have hle := back_le l hj
          go_wp2_with fail
          refine (back_calls (HS.out.two (by first | exact Below.refl _ _ | exact below_drew (Below.refl _ _) | exact pw_below_drewN (Below.refl _ _) _)).wk j hj).mono ?_
          rintro e w1 ⟨rfl, hd⟩
          have HT := Aside0.mk (HS.out.step (by first | exact Below.refl _ _ | exact below_drew (Below.refl _ _) | exact pw_below_drewN (Below.refl _ _) _) hd)
          clear hd f0 f1 f2 f3 f4 f5 f6 HS t1 t1' t2 t2'
          have HS := HT
          clear HT
          obtain ⟨f0, f1, f2, f3, f4, f5, f6, _, _, _, _, _⟩ := HS.out.wk
          go_wp2_with fail
          go_roundw
          case rel => exact ⟨k + 1, back l j, by go_num, by go_num, by omega, by omega, ⟨by rw [← HL.out]; exact (backsN_more l h1 h2).symm⟩, HS⟩
          case measure => simp [intOf]; omega
        · have t2 : decide ((0 : Int) < (j : Int)) = false := decide_eq_false (by omega)
          have t2' : decide (0 < j) = false := decide_eq_false h2
          obtain ⟨r0, r1, r2, z⟩ := HS.out.res.cell
          have z0 := z 0
          have z1 := z 1
          have z2 := z 2
          clear z
          go_wp2_with fail
          exact goal_postG HS.out rfl rfl (by rw [← HO.out, if_pos hs, ← HL.out, backsN_end l (by omega)]; rfl)
      · skip
        have t1 : decide ((k : Int) < (n : Int)) = false := decide_eq_false (by omega)
        have t1' : decide (k < n) = false := decide_eq_false (by omega)
        obtain ⟨r0, r1, r2, z⟩ := HS.out.res.cell
        have z0 := z 0
        have z1 := z 1
        have z2 := z 2
        clear z
        go_wp2_with fail
        exact goal_postG HS.out rfl rfl (by rw [← HO.out, if_pos hs, ← HL.out, backsN_end l (by omega)]; rfl)
  · have t0 : decide ((0 : Int) < (i : Int)) = false := decide_eq_false (by omega)
    have t0' : decide (0 < i) = false := decide_eq_false hs
    go_wp2_with (first | (go_at_call 92; refine (must_ok _).mono ?_; rintro e wm ⟨rfl, rfl⟩) | (go_at_call 92; refine (must_no _).mono ?_; rintro e wm ⟨rfl, rfl⟩))
    obtain rfl : none = o := by rw [← HO.out, if_neg hs]
    exact ⟨rfl, rfl, HS.out.bel⟩

set_option maxHeartbeats 400000 in
set_option maxRecDepth 100000 in
theorem letter_ok (hW : Wk w g A c l i n op key A2 c2 a cn) (h : one a = true) :
    Calls Try.prog 116 #[.pointer (some ⟨g, 0, none⟩)] w fun e w' => e = .returned (.tuple #[]) ∧ Below w.heap.size w w' := by
  simp only [one, Bool.and_eq_true, decide_eq_true_eq] at h
  obtain ⟨h1, h2⟩ := h
  have HS := Aside0.mk (Su.begin_ hW)
  have hn1 := hW.n1
  have hn2 := hW.n2
  have hi := begins_le hW.beg
  have hsz := hW.sl.ok.size
  clear hW
  obtain ⟨f0, f1, f2, f3, f4, f5, f6, _, _, _, _, _⟩ := HS.out.wk
  go_enter Try.func116, Try.ntmps116
  go_wp2_with fail
  have hA : Calls Try.prog 21 #[.slice A2 a.length c2, .int .i64 0] w fun e w' => e = .returned (.tuple #[.int .i64 (rn a 0), .int .i64 (sz a 0 : Int)]) ∧ Below w.heap.size w w' := c_next HS.out.wk.sa 0
  refine (hA).mono ?_
  rintro e w2 ⟨rfl, hd⟩
  have HT := Aside0.mk (HS.out.step (by first | exact Below.refl _ _ | exact below_drew (Below.refl _ _) | exact pw_below_drewN (Below.refl _ _) _) hd)
  clear hd f0 f1 f2 f3 f4 f5 f6 HS hA
  have HS := HT
  clear HT
  obtain ⟨f0, f1, f2, f3, f4, f5, f6, _, _, _, _, _⟩ := HS.out.wk
  have t1 : decide ((0 : Int) < (sz a 0 : Int)) = true := decide_eq_true (by omega)
  have t1' : decide (0 < sz a 0) = true := decide_eq_true h1
  have te : (((sz a 0 : Nat) : Int) == ((a.length : Nat) : Int)) = true := beq_iff_eq.2 (by omega)
  have te' : (((sz a 0 : Nat) : Int) != ((a.length : Nat) : Int)) = false := by rw [bne, te]; rfl
  have ten : (sz a 0 == a.length) = true := beq_iff_eq.2 (by omega)
  have ten' : (sz a 0 != a.length) = false := by rw [bne, ten]; rfl
  clear h1 h2
  go_wp2_with (first | (go_at_call 92; refine (must_ok _).mono ?_; rintro e wm ⟨rfl, rfl⟩) | (go_at_call 92; refine (must_no _).mono ?_; rintro e wm ⟨rfl, rfl⟩))
  go_end0
  exact ⟨rfl, HS.out.bel⟩

set_option maxHeartbeats 400000 in
set_option maxRecDepth 100000 in
theorem letter_no (hW : Wk w g A c l i n op key A2 c2 a cn) (h : one a = false) :
    Calls Try.prog 116 #[.pointer (some ⟨g, 0, none⟩)] w fun e w' => e = .panicked thrown ∧ Below w.heap.size w w' := by
  have ho := Aside0.mk h
  clear h
  have HS := Aside0.mk (Su.begin_ hW)
  have hn1 := hW.n1
  have hn2 := hW.n2
  have hi := begins_le hW.beg
  have hsz := hW.sl.ok.size
  clear hW
  obtain ⟨f0, f1, f2, f3, f4, f5, f6, _, _, _, _, _⟩ := HS.out.wk
  go_enter Try.func116, Try.ntmps116
  go_wp2_with fail
  have hA : Calls Try.prog 21 #[.slice A2 a.length c2, .int .i64 0] w fun e w' => e = .returned (.tuple #[.int .i64 (rn a 0), .int .i64 (sz a 0 : Int)]) ∧ Below w.heap.size w w' := c_next HS.out.wk.sa 0
  refine (hA).mono ?_
  rintro e w3 ⟨rfl, hd⟩
  have HT := Aside0.mk (HS.out.step (by first | exact Below.refl _ _ | exact below_drew (Below.refl _ _) | exact pw_below_drewN (Below.refl _ _) _) hd)
  clear hd f0 f1 f2 f3 f4 f5 f6 HS hA
  have HS := HT
  clear HT
  obtain ⟨f0, f1, f2, f3, f4, f5, f6, _, _, _, _, _⟩ := HS.out.wk
  by_cases h1 : 0 < sz a 0
  · have t1 : decide ((0 : Int) < (sz a 0 : Int)) = true := decide_eq_true (by omega)
    have t1' : decide (0 < sz a 0) = true := decide_eq_true h1
    have h2 : ¬ sz a 0 = a.length := fun h2 => by have := ho.out; simp [one, h2 ▸ h1, h2] at this
    have te : (((sz a 0 : Nat) : Int) == ((a.length : Nat) : Int)) = false := beq_eq_false_iff_ne.2 (by omega)
    have te' : (((sz a 0 : Nat) : Int) != ((a.length : Nat) : Int)) = true := by rw [bne, te]; rfl
    have ten : (sz a 0 == a.length) = false := beq_eq_false_iff_ne.2 (by omega)
    have ten' : (sz a 0 != a.length) = true := by rw [bne, ten]; rfl
    go_wp2_with (first | (go_at_call 92; refine (must_ok _).mono ?_; rintro e wm ⟨rfl, rfl⟩) | (go_at_call 92; refine (must_no _).mono ?_; rintro e wm ⟨rfl, rfl⟩))
    exact ⟨rfl, rfl, HS.out.bel⟩
  · have t1 : decide ((0 : Int) < (sz a 0 : Int)) = false := decide_eq_false (by omega)
    have t1' : decide (0 < sz a 0) = false := decide_eq_false h1
    go_wp2_with (first | (go_at_call 92; refine (must_ok _).mono ?_; rintro e wm ⟨rfl, rfl⟩) | (go_at_call 92; refine (must_no _).mono ?_; rintro e wm ⟨rfl, rfl⟩))
    exact ⟨rfl, rfl, HS.out.bel⟩

theorem equal_is {l a : List Int} (ok : OkL l) (oa : OkL a) (i : Nat) : bytes_Equal.f ((l.take (on l i)).drop i) a = some (isAt l a i) := by
  unfold bytes_Equal.f isAt
  have e : (l.take (on l i)).drop i = (l.drop i).take (sz l i) := by
    unfold on
    rw [List.drop_take, Nat.add_sub_cancel_left]
  rw [e]
  congr 1
  rw [Bool.eq_iff_iff, beq_iff_eq, decide_eq_true_eq, Lib.strOfNums_toList, Lib.strOfNums_toList]
  constructor
  · intro h
    exact bytesOf_inj (((ok.drop i).take _).bytes) oa.bytes h
  · intro h
    rw [h]

theorem c_equal (h : Sl w A c l) (ha : Sl w A2 c2 a) {j : Nat} (hj : j ≤ l.length) : Calls Try.prog 118 #[.slice (if c = j then A else Option.map (fun x => x.add j) A) (on l j - j) (c - j), .slice A2 a.length c2] w fun e w' => e = .returned (.bool (isAt l a j)) ∧ Drawn0 w w' := by
  have ho := on_le hj
  have hcap := h.cap
  have hl1 : (l.take (on l j)).length = on l j := by rw [List.length_take]; omega
  have hl2 : ((l.take (on l j)).drop j).length = on l j - j := by rw [List.length_drop, hl1]
  have r1 := Kd.C_drop (m := j) (Kd.C_take (m := on l j) h.reads ho.2) (by omega) (c := c) (by omega)
  have h2 := bytes_Equal.calls (if c = j then A else A.map (·.add (j * (Kd.int .u8).sz))) (c - j) ((l.take (on l j)).drop j) A2 c2 a _ w r1 (by omega) ha.reads ha.cap (equal_is h.ok ha.ok j)
  rw [hl2] at h2
  simpa [show (Kd.int .u8).sz = 1 from rfl] using h2
theorem c_equal1 (h : Sl w A c l) (ha : Sl w A2 c2 a) {j : Nat} (hj : j ≤ l.length) (hc : ¬ c = j) : Calls Try.prog 118 #[.slice (Option.map (fun x => x.add j) A) (on l j - j) (c - j), .slice A2 a.length c2] w fun e w' => e = .returned (.bool (isAt l a j)) ∧ Drawn0 w w' := by
  have := c_equal h ha hj
  rwa [if_neg hc] at this
theorem c_equal2 {j : Nat} (h : Sl w A j l) (ha : Sl w A2 c2 a) (hj : j ≤ l.length) : Calls Try.prog 118 #[.slice A (on l j - j) 0, .slice A2 a.length c2] w fun e w' => e = .returned (.bool (isAt l a j)) ∧ Drawn0 w w' := by
  have := c_equal h ha hj
  rwa [if_pos rfl, Nat.sub_self] at this

set_option maxHeartbeats 400000 in
set_option maxRecDepth 100000 in
theorem is_calls (hW : Wk w g A c l i n op key A2 c2 a cn) (j : Nat) (hj : j ≤ l.length) :
    Calls Try.prog 117 #[.pointer (some ⟨g, 0, none⟩), .int .i64 (j : Int)] w fun e w' => e = .returned (.bool (isAt l a j)) ∧ Below w.heap.size w w' := by
  have ho := on_le hj
  have hcap := hW.sl.cap
  have b1 : (0 : Int) ≤ (j : Int) := by omega
  have b2 : (j : Int) ≤ (on l j : Int) := by omega
  have b3 : (on l j : Int) ≤ (c : Int) := by omega
  by_cases hcj : c = j
  · subst hcj
    have HS := Aside0.mk (Su.begin_ hW)
    have hn1 := hW.n1
    have hn2 := hW.n2
    have hi := begins_le hW.beg
    have hsz := hW.sl.ok.size
    clear hW
    obtain ⟨f0, f1, f2, f3, f4, f5, f6, _, _, _, _, _⟩ := HS.out.wk
    go_enter Try.func117, Try.ntmps117
    go_wp2_with fail
    clear f0 f1 f2 f3 f4 f5 f6
    go_region_held3 (fun w' => w'.cell? ⟨g, 0, none⟩ = some (.slice A l.length c) ∧ w'.cell? ⟨g, 5, none⟩ = some (.slice A2 a.length c2)) (first | exact ⟨HS.out.wk.f0, HS.out.wk.f5⟩ | exact ⟨(HS.out.two (below_drew (Below.refl _ _))).wk.f0, (HS.out.two (below_drew (Below.refl _ _))).wk.f5⟩)
      (first | (go_at_call 48; refine (c_on (HS.out.two (by first | exact Below.refl _ _ | exact below_drew (Below.refl _ _) | exact pw_below_drewN (Below.refl _ _) _)).wk.sl hj).mono ?_; rintro e w6 ⟨rfl, hd⟩; have HT := Aside0.mk (HS.out.step (by first | exact Below.refl _ _ | exact below_drew (Below.refl _ _) | exact pw_below_drewN (Below.refl _ _) _) hd); clear hd HS; have HS := HT; clear HT) | (go_at_call 118; refine (c_equal2 HS.out.wk.sl HS.out.wk.sa hj).mono ?_; rintro e w7 ⟨rfl, hd⟩; have HT := Aside0.mk (HS.out.step (by first | exact Below.refl _ _ | exact below_drew (Below.refl _ _) | exact pw_below_drewN (Below.refl _ _) _) hd.below); clear hd HS; have HS := HT; clear HT))
    go_wp2_with fail
    go_ret
    exact ⟨rfl, HS.out.bel⟩
  · skip
    have HS := Aside0.mk (Su.begin_ hW)
    have hn1 := hW.n1
    have hn2 := hW.n2
    have hi := begins_le hW.beg
    have hsz := hW.sl.ok.size
    clear hW
    obtain ⟨f0, f1, f2, f3, f4, f5, f6, _, _, _, _, _⟩ := HS.out.wk
    go_enter Try.func117, Try.ntmps117
    go_wp2_with fail
    clear f0 f1 f2 f3 f4 f5 f6
    go_region_held3 (fun w' => w'.cell? ⟨g, 0, none⟩ = some (.slice A l.length c) ∧ w'.cell? ⟨g, 5, none⟩ = some (.slice A2 a.length c2)) (first | exact ⟨HS.out.wk.f0, HS.out.wk.f5⟩ | exact ⟨(HS.out.two (below_drew (Below.refl _ _))).wk.f0, (HS.out.two (below_drew (Below.refl _ _))).wk.f5⟩)
      (first | (go_at_call 48; refine (c_on (HS.out.two (by first | exact Below.refl _ _ | exact below_drew (Below.refl _ _) | exact pw_below_drewN (Below.refl _ _) _)).wk.sl hj).mono ?_; rintro e w4 ⟨rfl, hd⟩; have HT := Aside0.mk (HS.out.step (by first | exact Below.refl _ _ | exact below_drew (Below.refl _ _) | exact pw_below_drewN (Below.refl _ _) _) hd); clear hd HS; have HS := HT; clear HT) | (go_at_call 118; refine (c_equal1 HS.out.wk.sl HS.out.wk.sa hj hcj).mono ?_; rintro e w5 ⟨rfl, hd⟩; have HT := Aside0.mk (HS.out.step (by first | exact Below.refl _ _ | exact below_drew (Below.refl _ _) | exact pw_below_drewN (Below.refl _ _) _) hd.below); clear hd HS; have HS := HT; clear HT))
    go_wp2_with fail
    go_ret
    exact ⟨rfl, HS.out.bel⟩

theorem aheadN_more (l a : List Int) (tt : Nat) : ∀ (f f' n i : Nat), tt - i ≤ f → tt - i ≤ f' → tt ≤ l.length → aheadN l a tt f n i = aheadN l a tt f' n i
  | 0, 0, _, _, _, _, _ => rfl
  | 0, f' + 1, n, i, h, _, _ => by
    simp only [aheadN]
    rw [if_neg (by omega)]
  | f + 1, 0, n, i, _, h, _ => by
    simp only [aheadN]
    rw [if_neg (by omega)]
  | f + 1, f' + 1, n, i, h, h', ht => by
    simp only [aheadN]
    by_cases hc : i < tt
    · have hg := on_gt (show i < l.length by omega)
      rw [if_pos hc, if_pos hc, aheadN_more l a tt f f' (n - 1) _ (by omega) (by omega) ht, aheadN_more l a tt f f' n _ (by omega) (by omega) ht]
    · rw [if_neg hc, if_neg hc]
def aheadOn (l a : List Int) (tt n i : Nat) : Option Nat := aheadN l a tt (tt - i) n i
theorem aheadOn_eq (l a : List Int) {tt : Nat} (ht : tt ≤ l.length) (n i : Nat) : aheadOn l a tt n i = if i < tt then (if on l i < tt ∧ isAt l a (on l i) = true then (if n = 1 then some (on l i) else aheadOn l a tt (n - 1) (on l i)) else aheadOn l a tt n (on l i)) else none := by
  unfold aheadOn
  by_cases hc : i < tt
  · obtain ⟨f, hf⟩ : ∃ f, tt - i = f + 1 := ⟨tt - i - 1, by omega⟩
    have hg := on_gt (show i < l.length by omega)
    rw [hf, if_pos hc]
    simp only [aheadN]
    rw [if_pos hc, aheadN_more l a tt f (tt - on l i) (n - 1) _ (by omega) (by omega) ht, aheadN_more l a tt f (tt - on l i) n _ (by omega) (by omega) ht]
  · rw [if_neg hc, show tt - i = 0 by omega]
    rfl
theorem behindN_more (l a : List Int) (s : Nat) : ∀ (f f' n i : Nat), i - s ≤ f → i - s ≤ f' → i ≤ l.length → behindN l a s f n i = behindN l a s f' n i
  | 0, 0, _, _, _, _, _ => rfl
  | 0, f' + 1, n, i, h, _, _ => by
    simp only [behindN]
    rw [if_neg (by omega)]
  | f + 1, 0, n, i, _, h, _ => by
    simp only [behindN]
    rw [if_neg (by omega)]
  | f + 1, f' + 1, n, i, h, h', ht => by
    simp only [behindN]
    by_cases hc : s < i
    · have hg := lastSz_pos (l := l) (i := i) (by omega) ht
      rw [if_pos hc, if_pos hc, behindN_more l a s f f' (n - 1) _ (by omega) (by omega) (by omega), behindN_more l a s f f' n _ (by omega) (by omega) (by omega)]
    · rw [if_neg hc, if_neg hc]
def behindOn (l a : List Int) (s n i : Nat) : Option Nat := behindN l a s (i - s) n i
theorem behindOn_eq (l a : List Int) {s : Nat} (n : Nat) {i : Nat} (ht : i ≤ l.length) : behindOn l a s n i = if s < i then (if isAt l a (i - lastSz l i) = true then (if n = 1 then some (i - lastSz l i) else behindOn l a s (n - 1) (i - lastSz l i)) else behindOn l a s n (i - lastSz l i)) else none := by
  unfold behindOn
  by_cases hc : s < i
  · obtain ⟨f, hf⟩ : ∃ f, i - s = f + 1 := ⟨i - s - 1, by omega⟩
    have hg := lastSz_pos (l := l) (i := i) (by omega) ht
    rw [hf, if_pos hc]
    simp only [behindN]
    rw [if_pos hc, behindN_more l a s f (i - lastSz l i - s) (n - 1) _ (by omega) (by omega) (by omega), behindN_more l a s f (i - lastSz l i - s) n _ (by omega) (by omega) (by omega)]
  · rw [if_neg hc, show i - s = 0 by omega]
    rfl
theorem ahead_eq (l a : List Int) (n : Nat) {i : Nat} (hi : i ≤ l.length) : ahead l a n i = if one a = true then aheadOn l a (fin l i) n i else none := by
  have hf := fin_le hi
  unfold ahead aheadOn
  rw [aheadN_more l a (fin l i) l.length (fin l i - i) n i (by omega) (by omega) hf.2]
theorem behind_eq (l a : List Int) (n : Nat) {i : Nat} (hi : i ≤ l.length) : behind l a n i = if one a = true then behindOn l a (start l i) n i else none := by
  have hf := start_le l i
  unfold behind behindOn
  rw [behindN_more l a (start l i) l.length (i - start l i) n i (by omega) (by omega) hi]

set_option maxHeartbeats 1000000 in
set_option maxRecDepth 100000 in
theorem ahead_calls (hW : Wk w g A c l i n op key A2 c2 a cn) (o : Option Nat) (h : ahead l a n i = o) :
    Calls Try.prog 100 #[.pointer (some ⟨g, 0, none⟩)] w fun e w' => e = endI o ∧ Below w.heap.size w w' := by
  rw [ahead_eq l a n (begins_le hW.beg)] at h
  have hf := fin_le (begins_le hW.beg)
  by_cases h1 : one a = true
  · rw [if_pos h1] at h
    have HO := Aside0.mk h
    have h1' := Aside0.mk h1
    clear h h1
    have HS := Aside0.mk (Su.begin_ hW)
    have hn1 := hW.n1
    have hn2 := hW.n2
    have hi := begins_le hW.beg
    have hsz := hW.sl.ok.size
    clear hW
    obtain ⟨f0, f1, f2, f3, f4, f5, f6, _, _, _, _, _⟩ := HS.out.wk
    go_enter Try.func100, Try.ntmps100
    go_wp2_with fail
    refine (letter_ok (HS.out.two (by first | exact Below.refl _ _ | exact below_drew (Below.refl _ _) | exact pw_below_drewN (Below.refl _ _) _)).wk h1'.out).mono ?_
    rintro e w8 ⟨rfl, hd⟩
    have HT := Aside0.mk (HS.out.step (by first | exact Below.refl _ _ | exact below_drew (Below.refl _ _) | exact pw_below_drewN (Below.refl _ _) _) hd)
    clear hd f0 f1 f2 f3 f4 f5 f6 HS
    have HS := HT
    clear HT
    obtain ⟨f0, f1, f2, f3, f4, f5, f6, _, _, _, _, _⟩ := HS.out.wk
    go_wp2_with fail
    refine region_tail 8 (by kernel_rfl) (by kernel_rfl) _ rfl ?_
    simp only [List.take_succ_cons, List.take_zero, List.drop_succ_cons, List.drop_zero]
    repeat still_step
    refine wpStill_nil ?_
    go_wp2_with fail
    refine (c_end (HS.out.two (by first | exact Below.refl _ _ | exact below_drew (Below.refl _ _) | exact pw_below_drewN (Below.refl _ _) _)).wk.sl hi).mono ?_
    rintro e w10 ⟨rfl, hd⟩
    have HT := Aside0.mk (HS.out.step (by first | exact Below.refl _ _ | exact below_drew (Below.refl _ _) | exact pw_below_drewN (Below.refl _ _) _) hd.below)
    clear hd f0 f1 f2 f3 f4 f5 f6 HS
    have HS := HT
    clear HT
    obtain ⟨f0, f1, f2, f3, f4, f5, f6, _, _, _, _, _⟩ := HS.out.wk
    go_wp2_with fail
    go_loopw [4, 5] (fun v4 v5 wr => ∃ (k j : Nat), v4 = .int .i64 k ∧ v5 = .int .i64 j ∧ k < n ∧ j ≤ l.length ∧ Aside0 (aheadOn l a (fin l i) (n - k) j = o) ∧ Aside0 (Su w wr (Wk wr g A c l i n op key A2 c2 a cn))) (fun _ v5 _ => l.length - (intOf v5).toNat)
    case atStart => exact ⟨0, i, rfl, rfl, by omega, hi, HO, HS⟩
    case round =>
      clear f0 f1 f2 f3 f4 f5 f6 HS HO
      obtain ⟨k, j, rfl, rfl, hk, hj, HO, HS⟩ := hrel
      obtain ⟨f0, f1, f2, f3, f4, f5, f6, _, _, _, _, _⟩ := HS.out.wk
      have HE := Aside0.mk (HO.out.symm.trans (aheadOn_eq l a hf.2 (n - k) j))
      clear HO
      by_cases h2 : j < fin l i
      · skip
        have t2 : decide ((j : Int) < (fin l i : Int)) = true := decide_eq_true (by omega)
        have t2' : decide (j < fin l i) = true := decide_eq_true (by omega)
        have hg := on_gt (show j < l.length by omega)
        have HE2 := Aside0.mk (HE.out.trans (if_pos h2))
        clear HE
        go_wp2_with fail
        refine (c_on (HS.out.two (by first | exact Below.refl _ _ | exact below_drew (Below.refl _ _) | exact pw_below_drewN (Below.refl _ _) _)).wk.sl hj).mono ?_
        rintro e w11 ⟨rfl, hd⟩
        have HT := Aside0.mk (HS.out.step (by first | exact Below.refl _ _ | exact below_drew (Below.refl _ _) | exact pw_below_drewN (Below.refl _ _) _) hd)
        clear hd f0 f1 f2 f3 f4 f5 f6 HS t2 t2'
        have HS := HT
        clear HT
        obtain ⟨f0, f1, f2, f3, f4, f5, f6, _, _, _, _, _⟩ := HS.out.wk
        by_cases h3 : on l j < fin l i
        · skip
          have t3 : decide ((on l j : Int) < (fin l i : Int)) = true := decide_eq_true (by omega)
          have t3' : decide (on l j < fin l i) = true := decide_eq_true (by omega)
          go_wp2_with fail
          refine (is_calls (HS.out.two (by first | exact Below.refl _ _ | exact below_drew (Below.refl _ _) | exact pw_below_drewN (Below.refl _ _) _)).wk (on l j) hg.2.1).mono ?_
          rintro e w12 ⟨rfl, hd⟩
          have HT := Aside0.mk (HS.out.step (by first | exact Below.refl _ _ | exact below_drew (Below.refl _ _) | exact pw_below_drewN (Below.refl _ _) _) hd)
          clear hd f0 f1 f2 f3 f4 f5 f6 HS t3 t3'
          have HS := HT
          clear HT
          obtain ⟨f0, f1, f2, f3, f4, f5, f6, _, _, _, _, _⟩ := HS.out.wk
          by_cases h4 : isAt l a (on l j) = true
          · have HE3 := Aside0.mk (HE2.out.trans (if_pos ⟨h3, h4⟩))
            clear HE2
            have h4' := Aside0.mk h4
            rw [h4]
            clear h4
            by_cases h5 : k + 1 = n
            · have te : (((k : Nat) : Int) + 1 == (n : Int)) = true := beq_iff_eq.2 (by omega)
              have HE4 := Aside0.mk (HE3.out.trans (if_pos (show n - k = 1 by omega)))
              clear h5
              go_wp2_with fail
              go_ret
              exact ⟨by rw [HE4.out]; rfl, HS.out.bel⟩
            · have te : (((k : Nat) : Int) + 1 == (n : Int)) = false := beq_eq_false_iff_ne.2 (by omega)
              have HE4 := Aside0.mk (HE3.out.trans (if_neg (show ¬ n - k = 1 by omega)))
              go_wp2_with fail
              go_roundw
              case rel => exact ⟨k + 1, on l j, by go_num, by go_num, by omega, by omega, ⟨by rw [HE4.out, show n - (k + 1) = n - k - 1 by omega]⟩, HS⟩
              case measure => simp [intOf]; omega
          · have HE3 := Aside0.mk (HE2.out.trans (if_neg (fun h => h4 h.2)))
            clear HE2
            have h4' : isAt l a (on l j) = false := by simpa using h4
            rw [h4']
            clear h4 h4'
            go_wp2_with fail
            go_roundw
            case rel => exact ⟨k, on l j, by go_num, by go_num, by omega, by omega, ⟨HE3.out.symm⟩, HS⟩
            case measure => simp [intOf]; omega
        · skip
          have t3 : decide ((on l j : Int) < (fin l i : Int)) = false := decide_eq_false (by omega)
          have t3' : decide (on l j < fin l i) = false := decide_eq_false (by omega)
          have HE3 := Aside0.mk (HE2.out.trans (if_neg (fun h => h3 h.1)))
          clear HE2
          go_wp2_with fail
          go_roundw
          case rel => exact ⟨k, on l j, by go_num, by go_num, by omega, by omega, ⟨HE3.out.symm⟩, HS⟩
          case measure => simp [intOf]; omega
      · skip
        have t2 : decide ((j : Int) < (fin l i : Int)) = false := decide_eq_false (by omega)
        have t2' : decide (j < fin l i) = false := decide_eq_false (by omega)
        have HE2 := Aside0.mk (HE.out.trans (if_neg h2))
        clear HE
        go_wp2_with fail
        obtain rfl : o = none := HE2.out
        exact ⟨rfl, rfl, HS.out.bel⟩
  · rw [if_neg h1] at h
    subst h
    have h1' : one a = false := by simpa using h1
    clear h1
    have HS := Aside0.mk (Su.begin_ hW)
    have hn1 := hW.n1
    have hn2 := hW.n2
    have hi := begins_le hW.beg
    have hsz := hW.sl.ok.size
    clear hW
    obtain ⟨f0, f1, f2, f3, f4, f5, f6, _, _, _, _, _⟩ := HS.out.wk
    go_enter Try.func100, Try.ntmps100
    go_wp2_with fail
    refine (letter_no (HS.out.two (by first | exact Below.refl _ _ | exact below_drew (Below.refl _ _) | exact pw_below_drewN (Below.refl _ _) _)).wk h1').mono ?_
    rintro e w9 ⟨rfl, hd⟩
    have HT := Aside0.mk (HS.out.step (by first | exact Below.refl _ _ | exact below_drew (Below.refl _ _) | exact pw_below_drewN (Below.refl _ _) _) hd)
    clear hd f0 f1 f2 f3 f4 f5 f6 HS
    have HS := HT
    clear HT
    obtain ⟨f0, f1, f2, f3, f4, f5, f6, _, _, _, _, _⟩ := HS.out.wk
    go_wp2_with fail
    exact ⟨rfl, rfl, HS.out.bel⟩
end
end Go.Proofs.Ytiibjehnlphabaa

end
