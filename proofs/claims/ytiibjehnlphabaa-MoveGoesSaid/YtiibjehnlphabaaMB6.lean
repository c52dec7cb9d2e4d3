/- Part 6 of what the proofs of chapter 23 share. A program joined it out of texts of this work; the functions named X.f and their contracts X.calls were first written by the print tool of the kit, in a copy that takes given contracts. -/
import Derived.IntWalk
import Derived.WalkKit
import Derived.Deep.QuietTactic
import Derived.BigQuiet
import Derived.Deep.RegionHeld3
import Derived.Test.YtiibjehnlphabaaMB5
section
namespace Go.Proofs.Ytiibjehnlphabaa
open Go.RowKit Go.Proofs.YtiibjehnlphabaaW.PrintWords Go.Proofs.YtiibjehnlphabaaW.PrintMore Q
set_option linter.unusedVariables false
set_option linter.unusedSimpArgs false
section
variable {w : World} {g : Nat} {A : Option Addr} {c : Nat} {l : List Int} {i : Nat} {n : Nat} {op : Bool} {key : ByteArray} {A2 : Option Addr} {c2 : Nat} {a : List Int} {cn : Int}
theorem lastSz_le {l : List Int} {j : Nat} (hj : j ≤ l.length) : lastSz l j ≤ j := by
  by_cases h : 1 ≤ j
  · exact (lastSz_pos h hj).2.2
  · unfold lastSz
    rw [if_pos (by omega)]
    omega
theorem goBack_more (p : Nat → Bool) (l : List Int) : ∀ (f f' j : Nat), j ≤ f → j ≤ f' → j ≤ l.length → goBack p l f j = goBack p l f' j
  | 0, 0, _, _, _, _ => rfl
  | 0, f' + 1, j, h, _, _ => by
    simp only [goBack]
    rw [if_neg (by omega)]
  | f + 1, 0, j, _, h, _ => by
    simp only [goBack]
    rw [if_neg (by omega)]
  | f + 1, f' + 1, j, h, h', hl => by
    simp only [goBack]
    by_cases hc : 0 < j ∧ p j = true
    · rw [if_pos hc, if_pos hc]
      have := lastSz_pos (l := l) (i := j) (by omega) hl
      exact goBack_more p l f f' _ (by omega) (by omega) (by omega)
    · rw [if_neg hc, if_neg hc]
/-- Letters back, while it is so. -/
def backOn (p : Nat → Bool) (l : List Int) (j : Nat) : Nat := goBack p l j j
theorem backOn_eq (p : Nat → Bool) (l : List Int) {j : Nat} (hj : j ≤ l.length) : backOn p l j = if 0 < j ∧ p j = true then backOn p l (j - lastSz l j) else j := by
  unfold backOn
  cases j with
  | zero => rfl
  | succ j =>
    have := lastSz_pos (l := l) (i := j + 1) (by omega) hj
    simp only [goBack]
    split
    · exact goBack_more p l _ _ _ (by omega) (by omega) (by omega)
    · rfl
theorem backOn_le (p : Nat → Bool) (l : List Int) : ∀ (n j : Nat), j ≤ n → j ≤ l.length → backOn p l j ≤ j
  | 0, j, h, hj => by rw [backOn_eq p l hj, if_neg (by omega)]; omega
  | n + 1, j, h, hj => by
    rw [backOn_eq p l hj]
    split
    · have := lastSz_pos (l := l) (i := j) (by omega) hj
      have := backOn_le p l n (j - lastSz l j) (by omega) (by omega)
      omega
    · exact Nat.le_refl _
def blankB (l : List Int) (j : Nat) : Bool := decide (kls l j = 0)
def back0 (l : List Int) (i : Nat) : Nat := backOn (blankB l) l (i - lastSz l i)
def sameB (l : List Int) (q : Int) (j : Nat) : Bool := decide (kls l (j - lastSz l j) = q)
theorem back_eq (l : List Int) {i : Nat} (hi : i ≤ l.length) : back l i = if kls l (back0 l i) ≠ 0 then backOn (sameB l (kls l (back0 l i))) l (back0 l i) else back0 l i := by
  have e : goBack (fun j => decide (kls l j = 0)) l i (i - lastSz l i) = back0 l i := goBack_more _ l _ _ _ (by omega) (by omega) (by omega)
  unfold back
  simp only [e]
  rfl
theorem back0_le (l : List Int) {i : Nat} (hi : i ≤ l.length) : back0 l i ≤ i := by
  have := backOn_le (blankB l) l _ (i - lastSz l i) (Nat.le_refl _) (by omega)
  unfold back0
  omega
theorem back_le (l : List Int) {i : Nat} (hi : i ≤ l.length) : back l i ≤ i := by
  have h0 := back0_le l hi
  rw [back_eq l hi]
  split
  · have := backOn_le (sameB l (kls l (back0 l i))) l _ (back0 l i) (Nat.le_refl _) (by omega)
    omega
  · exact h0
theorem backsN_more (l : List Int) {n k j : Nat} (hk : k < n) (hj : 0 < j) : backsN l (n - k) j = backsN l (n - (k + 1)) (back l j) := by
  obtain ⟨m, hm⟩ : ∃ m, n - k = m + 1 := ⟨n - k - 1, by omega⟩
  rw [hm, show n - (k + 1) = m by omega]
  simp only [backsN, if_pos hj]
theorem backsN_end (l : List Int) {m j : Nat} (h : m = 0 ∨ ¬ 0 < j) : backsN l m j = j := by
  cases m with
  | zero => rfl
  | succ m => simp only [backsN]; rw [if_neg (by omega)]

/-- What stands inside 'back': its two captured variables, the walker, what was there. -/
structure Sb (w0 w : World) (bp bq g j : Nat) (W : Prop) : Prop where
  wk : W
  bel : Below w0.heap.size w0 w
  np : w0.heap.size ≤ bp
  ne : bp ≠ bq
  ng : bp ≠ g
  cp : w.heap[bp]? = some (.cells #[.int .i64 (j : Int)] 3 (0, 0))
  cq : w.heap[bq]? = some (.cells #[.pointer (some ⟨g, 0, none⟩)] 55 (0, 0))
end
section
variable {w0 w w1 w2 : World} {bp bq g j : Nat} {A : Option Addr} {c : Nat} {l : List Int} {i : Nat} {n : Nat} {op : Bool} {key : ByteArray} {A2 : Option Addr} {c2 : Nat} {a : List Int} {cn : Int}
theorem blk_lt {b : Nat} {o : Obj} (h : w.heap[b]? = some o) : b < w.heap.size := by
  rcases Nat.lt_or_ge b w.heap.size with hlt | hge
  · exact hlt
  · rw [Array.getElem?_eq_none hge] at h; cases h
theorem Sb.two (h : Sb w0 w bp bq g j (Wk w g A c l i n op key A2 c2 a cn)) (h1 : Below w.heap.size w w1) : Sb w0 w1 bp bq g j (Wk w1 g A c l i n op key A2 c2 a cn) :=
  ⟨h.wk.below h1, h.bel.trans (h1.mono h.bel.size), h.np, h.ne, h.ng, (h1.block bp (blk_lt h.cp)).trans h.cp, (h1.block bq (blk_lt h.cq)).trans h.cq⟩
theorem Sb.step (h : Sb w0 w bp bq g j (Wk w g A c l i n op key A2 c2 a cn)) (h1 : Below w.heap.size w w1) (h2 : Below w1.heap.size w1 w2) : Sb w0 w2 bp bq g j (Wk w2 g A c l i n op key A2 c2 a cn) :=
  h.two (h1.trans (h2.mono h1.size))
theorem Sb.cells (h : Sb w0 w bp bq g j (Wk w g A c l i n op key A2 c2 a cn)) : w.cell? ⟨bp, 0, none⟩ = some (.int .i64 (j : Int)) ∧ w.cell? ⟨bq, 0, none⟩ = some (.pointer (some ⟨g, 0, none⟩)) ∧ w.frozen? ⟨bp, 0, none⟩ = false ∧ w.cell? ⟨g, 0, none⟩ = some (.slice A l.length c) := by
  refine ⟨?_, ?_, ?_, h.wk.f0⟩
  · simp [World.cell?, h.cp]
  · simp [World.cell?, h.cq]
  · simp [World.frozen?, h.cp]
theorem Sb.set_ (h : Sb w0 w bp bq g j (Wk w g A c l i n op key A2 c2 a cn)) (hw0 : Wk w0 g A c l i n op key A2 c2 a cn) (j' : Nat) : Sb w0 (w.setCell ⟨bp, 0, none⟩ (.int .i64 (j' : Int))) bp bq g j' (Wk (w.setCell ⟨bp, 0, none⟩ (.int .i64 (j' : Int))) g A c l i n op key A2 c2 a cn) := by
  have hb : Below w0.heap.size w0 (w.setCell ⟨bp, 0, none⟩ (.int .i64 (j' : Int))) := h.bel.setCell (p := ⟨bp, 0, none⟩) h.np _
  have hbl := blk_lt h.cp
  refine ⟨hw0.below hb, hb, h.np, h.ne, h.ng, ?_, ?_⟩
  · simp [World.setCell, Array.getElem?_modify, h.cp]
  · rw [show (w.setCell ⟨bp, 0, none⟩ (.int .i64 (j' : Int))).heap[bq]? = w.heap[bq]? from Below.heap_setCell w ⟨bp, 0, none⟩ _ bq (fun e => h.ne e.symm)]
    exact h.cq
theorem sb_begin (h : Wk w g A c l i n op key A2 c2 a cn) (m : Nat) : Sb w ((w.alloc (.cells #[.pointer (some ⟨g, 0, none⟩)] 55)).alloc (.cells #[.int .i64 (m : Int)] 3)) (w.heap.size + 1) w.heap.size g m (Wk ((w.alloc (.cells #[.pointer (some ⟨g, 0, none⟩)] 55)).alloc (.cells #[.int .i64 (m : Int)] 3)) g A c l i n op key A2 c2 a cn) := by
  have hb : Below w.heap.size w ((w.alloc (.cells #[.pointer (some ⟨g, 0, none⟩)] 55)).alloc (.cells #[.int .i64 (m : Int)] 3)) := below_alloc (below_alloc (Below.refl _ _) _) _
  have hlt := h.lt
  refine ⟨h.below hb, hb, by omega, by omega, by omega, ?_, ?_⟩
  · have := heap_alloc_new (w.alloc (.cells #[.pointer (some ⟨g, 0, none⟩)] 55)) (.cells #[.int .i64 (m : Int)] 3)
    simpa using this
  · rw [Below.heap_alloc _ _ _ (by simp)]
    exact heap_alloc_new w _

set_option maxHeartbeats 400000 in
set_option maxRecDepth 100000 in
theorem ahead1_calls (hS : Sb w0 w bp bq g j (Wk w g A c l i n op key A2 c2 a cn)) (hj : j ≤ l.length) :
    Calls Try.prog 115 #[.pointer (some ⟨bp, 0, none⟩), .pointer (some ⟨bq, 0, none⟩)] w fun e w' => e = .returned (.int .i64 ((j - lastSz l j : Nat) : Int)) ∧ Below w.heap.size w w' := by
  have hle := lastSz_le hj
  have hsz := hS.wk.sl.ok.size
  have HS := Aside0.mk hS
  clear hS
  have e1 : IntKind.i64.wrap ((j : Int) - (lastSz l j : Int)) = ((j - lastSz l j : Nat) : Int) := by rw [IntWalk.i64_in _ (by omega)]; omega
  go_enter Try.func115, Try.ntmps115
  go_wp2_with fail
  go_region_held3 (fun w' => w'.cell? ⟨bp, 0, none⟩ = some (.int .i64 (j : Int)) ∧ w'.cell? ⟨bq, 0, none⟩ = some (.pointer (some ⟨g, 0, none⟩)) ∧ w'.cell? ⟨g, 0, none⟩ = some (.slice A l.length c)) (first | exact ⟨HS.out.cells.1, HS.out.cells.2.1, HS.out.wk.f0⟩ | exact ⟨(HS.out.two (below_drew (Below.refl _ _))).cells.1, (HS.out.two (below_drew (Below.refl _ _))).cells.2.1, (HS.out.two (below_drew (Below.refl _ _))).wk.f0⟩)
    (first | (go_at_call 83; refine (c_last (HS.out.two (by first | exact Below.refl _ _ | exact below_drew (Below.refl _ _) | exact pw_below_drewN (Below.refl _ _) _)).wk.sl hj).mono ?_; rintro e w1 ⟨rfl, hd⟩; have HB := Aside0.mk (show Below w.heap.size w _ from (below_drew (Below.refl w.heap.size w)).trans hd); have HT := Aside0.mk (HS.out.step (by first | exact Below.refl _ _ | exact below_drew (Below.refl _ _) | exact pw_below_drewN (Below.refl _ _) _) hd); clear hd HS; have HS := HT; clear HT))
  go_wp2_with fail
  go_ret
  exact ⟨rfl, HB.out⟩

set_option maxHeartbeats 2000000 in
set_option maxRecDepth 100000 in
theorem back_calls (hW : Wk w g A c l i n op key A2 c2 a cn) (m : Nat) (hm : m ≤ l.length) :
    Calls Try.prog 98 #[.pointer (some ⟨g, 0, none⟩), .int .i64 (m : Int)] w fun e w' => e = .returned (.int .i64 (back l m : Int)) ∧ Below w.heap.size w w' := by
  have HW0 := Aside0.mk hW
  have hsz := hW.sl.ok.size
  have hgl := hW.lt
  have hle := lastSz_le hm
  have HS := Aside0.mk (sb_begin hW m)
  clear hW
  obtain ⟨x0, x1, x2, x3⟩ := HS.out.cells
  go_enter Try.func98, Try.ntmps98
  go_wp2_with fail
  refine (ahead1_calls (HS.out.two (by first | exact Below.refl _ _ | exact below_drew (Below.refl _ _) | exact pw_below_drewN (Below.refl _ _) _)) hm).mono ?_
  rintro e w12 ⟨rfl, hd⟩
  have HT := Aside0.mk (HS.out.step (by first | exact Below.refl _ _ | exact below_drew (Below.refl _ _) | exact pw_below_drewN (Below.refl _ _) _) hd)
  clear hd x0 x1 x2 x3 HS
  have HS := HT
  clear HT
  obtain ⟨x0, x1, x2, x3⟩ := HS.out.cells
  go_wp2_with fail
  have HS2 := Aside0.mk (HS.out.set_ HW0.out (m - lastSz l m))
  clear HS x0 x1 x2 x3
  have HS := HS2
  clear HS2
  go_loopg [10] (m - lastSz l m) (fun gk v10 wr => ∃ (j : Nat), j ≤ gk ∧ j ≤ l.length ∧ Aside0 (backOn (blankB l) l j = back0 l m) ∧ Aside0 (Sb w wr (w.heap.size + 1) w.heap.size g j (Wk wr g A c l i n op key A2 c2 a cn)))
  case atStart => exact ⟨m - lastSz l m, Nat.le_refl _, by omega, ⟨rfl⟩, HS⟩
  case round =>
    clear HS
    obtain ⟨j, hjg, hj, HL, HS⟩ := hrel
    by_cases h1 : 0 < j
    · have t1 : decide ((0 : Int) < (j : Int)) = true := decide_eq_true (by omega)
      have t1' : decide (0 < j) = true := decide_eq_true h1
      have hz := lastSz_pos (l := l) (i := j) (by omega) hj
      by_cases h2 : kls l j = 0
      · have t2 : (kls l j == 0) = true := beq_iff_eq.2 h2
        have hp := Aside0.mk (show backOn (blankB l) l (j - lastSz l j) = back0 l m by rw [← HL.out, backOn_eq _ l hj, if_pos ⟨h1, by simp [blankB, h2]⟩])
        clear h2 HL
        go_wp2_with fail
        go_region_held3 (fun w' => w'.cell? ⟨w.heap.size + 1, 0, none⟩ = some (.int .i64 (j : Int)) ∧ w'.cell? ⟨w.heap.size, 0, none⟩ = some (.pointer (some ⟨g, 0, none⟩)) ∧ w'.cell? ⟨g, 0, none⟩ = some (.slice A l.length c)) (first | exact ⟨HS.out.cells.1, HS.out.cells.2.1, HS.out.wk.f0⟩ | exact ⟨(HS.out.two (below_drew (Below.refl _ _))).cells.1, (HS.out.two (below_drew (Below.refl _ _))).cells.2.1, (HS.out.two (below_drew (Below.refl _ _))).wk.f0⟩)
          (first | (go_at_call 49; refine (c_class (HS.out.two (by first | exact Below.refl _ _ | exact below_drew (Below.refl _ _) | exact pw_below_drewN (Below.refl _ _) _)).wk.sl j).mono ?_; rintro e w4 ⟨rfl, hd⟩; have HT := Aside0.mk (HS.out.step (by first | exact Below.refl _ _ | exact below_drew (Below.refl _ _) | exact pw_below_drewN (Below.refl _ _) _) hd); clear hd HS; have HS := HT; clear HT))
        obtain ⟨x0, x1, x2, x3⟩ := HS.out.cells
        go_wp2_with fail
        refine (ahead1_calls (HS.out.two (by first | exact Below.refl _ _ | exact below_drew (Below.refl _ _) | exact pw_below_drewN (Below.refl _ _) _)) hj).mono ?_
        rintro e w3 ⟨rfl, hd⟩
        have HT := Aside0.mk (HS.out.step (by first | exact Below.refl _ _ | exact below_drew (Below.refl _ _) | exact pw_below_drewN (Below.refl _ _) _) hd)
        clear hd x0 x1 x2 x3 HS
        have HS := HT
        clear HT
        obtain ⟨x0, x1, x2, x3⟩ := HS.out.cells
        go_wp2_with fail
        have HS2 := Aside0.mk (HS.out.set_ HW0.out (j - lastSz l j))
        clear HS x0 x1 x2 x3
        have HS := HS2
        clear HS2
        go_roundg (j - lastSz l j)
        case measure => omega
        case rel => exact ⟨j - lastSz l j, Nat.le_refl _, by omega, hp, HS⟩
      · have t2 : (kls l j == 0) = false := beq_eq_false_iff_ne.2 h2
        have he := Aside0.mk (show j = back0 l m by rw [← HL.out, backOn_eq _ l hj, if_neg (by simp [blankB, h2])])
        clear h2 HL
        go_wp2_with fail
        go_region_held3 (fun w' => w'.cell? ⟨w.heap.size + 1, 0, none⟩ = some (.int .i64 (j : Int)) ∧ w'.cell? ⟨w.heap.size, 0, none⟩ = some (.pointer (some ⟨g, 0, none⟩)) ∧ w'.cell? ⟨g, 0, none⟩ = some (.slice A l.length c)) (first | exact ⟨HS.out.cells.1, HS.out.cells.2.1, HS.out.wk.f0⟩ | exact ⟨(HS.out.two (below_drew (Below.refl _ _))).cells.1, (HS.out.two (below_drew (Below.refl _ _))).cells.2.1, (HS.out.two (below_drew (Below.refl _ _))).wk.f0⟩)
          (first | (go_at_call 49; refine (c_class (HS.out.two (by first | exact Below.refl _ _ | exact below_drew (Below.refl _ _) | exact pw_below_drewN (Below.refl _ _) _)).wk.sl j).mono ?_; rintro e w5 ⟨rfl, hd⟩; have HT := Aside0.mk (HS.out.step (by first | exact Below.refl _ _ | exact below_drew (Below.refl _ _) | exact pw_below_drewN (Below.refl _ _) _) hd); clear hd HS; have HS := HT; clear HT))
        obtain ⟨x0, x1, x2, x3⟩ := HS.out.cells
        go_wp2_with fail
        clear t2 t1 t1'
        refine region_tail 5 (by kernel_rfl) (by kernel_rfl) _ rfl ?_
        simp only [List.take_succ_cons, List.take_zero, List.drop_succ_cons, List.drop_zero]
        repeat still_step
        refine wpStill_nil ?_
        go_wp2_with fail
        refine (c_class (HS.out.two (by first | exact Below.refl _ _ | exact below_drew (Below.refl _ _) | exact pw_below_drewN (Below.refl _ _) _)).wk.sl j).mono ?_
        rintro e w11 ⟨rfl, hd⟩
        have HT := Aside0.mk (HS.out.step (by first | exact Below.refl _ _ | exact below_drew (Below.refl _ _) | exact pw_below_drewN (Below.refl _ _) _) hd)
        clear hd x0 x1 x2 x3 HS
        have HS := HT
        clear HT
        obtain ⟨x0, x1, x2, x3⟩ := HS.out.cells
        go_wp2_with fail
        by_cases hc : kls l j = 0
        · skip
          have t5 : (kls l j != 0) = false := by rw [bne, beq_iff_eq.2 hc]; rfl
          have hc0 := Aside0.mk hc
          clear hc
          go_loopg [29] 0 (fun gk v29 wr => Aside0 (Sb w wr (w.heap.size + 1) w.heap.size g j (Wk wr g A c l i n op key A2 c2 a cn)))
          case atStart => exact HS
          case round =>
            clear HS x0 x1 x2 x3
            have HS := hrel
            obtain ⟨x0, x1, x2, x3⟩ := HS.out.cells
            go_wp2_with fail
            go_quiet (fail)
            go_wp2_with fail
            go_ret
            exact ⟨by rw [back_eq l hm, ← he.out, if_neg (by simp [hc0.out])]; rfl, (HS.out.two (pw_below_drewN (Below.refl _ _) _)).bel⟩
        · skip
          have t5 : (kls l j != 0) = true := by rw [bne, beq_eq_false_iff_ne.2 hc]; rfl
          have hc0 := Aside0.mk hc
          clear hc
          go_loopg [29] j (fun gk v29 wr => ∃ (q : Nat), q ≤ gk ∧ q ≤ l.length ∧ Aside0 (backOn (sameB l (kls l j)) l q = backOn (sameB l (kls l j)) l j) ∧ Aside0 (Sb w wr (w.heap.size + 1) w.heap.size g q (Wk wr g A c l i n op key A2 c2 a cn)))
          case atStart => exact ⟨j, Nat.le_refl _, hj, ⟨rfl⟩, HS⟩
          case round =>
            clear HS x0 x1 x2 x3
            obtain ⟨q, hqg, hq, HQ, HS⟩ := hrel
            obtain ⟨x0, x1, x2, x3⟩ := HS.out.cells
            by_cases h2 : 0 < q
            · have t2 : decide ((0 : Int) < (q : Int)) = true := decide_eq_true (by omega)
              have t2' : decide (0 < q) = true := decide_eq_true h2
              have hzq := lastSz_pos (l := l) (i := q) (by omega) hq
              by_cases h3 : kls l (q - lastSz l q) = kls l j
              · have t3 : (kls l (q - lastSz l q) == kls l j) = true := beq_iff_eq.2 h3
                have hp := Aside0.mk (show backOn (sameB l (kls l j)) l (q - lastSz l q) = backOn (sameB l (kls l j)) l j by rw [← HQ.out, backOn_eq _ l hq, if_pos ⟨h2, by simp [sameB, h3]⟩])
                clear h3 HQ x0 x1 x2 x3
                go_wp2_with fail
                go_region_held3 (fun w' => w'.cell? ⟨w.heap.size + 1, 0, none⟩ = some (.int .i64 (q : Int)) ∧ w'.cell? ⟨w.heap.size, 0, none⟩ = some (.pointer (some ⟨g, 0, none⟩)) ∧ w'.cell? ⟨g, 0, none⟩ = some (.slice A l.length c)) (first | exact ⟨HS.out.cells.1, HS.out.cells.2.1, HS.out.wk.f0⟩ | exact ⟨(HS.out.two (below_drew (Below.refl _ _))).cells.1, (HS.out.two (below_drew (Below.refl _ _))).cells.2.1, (HS.out.two (below_drew (Below.refl _ _))).wk.f0⟩)
                  (first | (go_at_call 115; refine (ahead1_calls (HS.out.two (by first | exact Below.refl _ _ | exact below_drew (Below.refl _ _) | exact pw_below_drewN (Below.refl _ _) _)) hq).mono ?_; rintro e w7 ⟨rfl, hd⟩; have HT := Aside0.mk (HS.out.step (by first | exact Below.refl _ _ | exact below_drew (Below.refl _ _) | exact pw_below_drewN (Below.refl _ _) _) hd); clear hd HS; have HS := HT; clear HT) | (go_at_call 49; refine (c_class (HS.out.two (by first | exact Below.refl _ _ | exact below_drew (Below.refl _ _) | exact pw_below_drewN (Below.refl _ _) _)).wk.sl (q - lastSz l q)).mono ?_; rintro e w8 ⟨rfl, hd⟩; have HT := Aside0.mk (HS.out.step (by first | exact Below.refl _ _ | exact below_drew (Below.refl _ _) | exact pw_below_drewN (Below.refl _ _) _) hd); clear hd HS; have HS := HT; clear HT))
                obtain ⟨x0, x1, x2, x3⟩ := HS.out.cells
                go_wp2_with fail
                refine (ahead1_calls (HS.out.two (by first | exact Below.refl _ _ | exact below_drew (Below.refl _ _) | exact pw_below_drewN (Below.refl _ _) _)) hq).mono ?_
                rintro e w6 ⟨rfl, hd⟩
                have HT := Aside0.mk (HS.out.step (by first | exact Below.refl _ _ | exact below_drew (Below.refl _ _) | exact pw_below_drewN (Below.refl _ _) _) hd)
                clear hd x0 x1 x2 x3 HS
                have HS := HT
                clear HT
                obtain ⟨x0, x1, x2, x3⟩ := HS.out.cells
                go_wp2_with fail
                have HS2 := Aside0.mk (HS.out.set_ HW0.out (q - lastSz l q))
                clear HS x0 x1 x2 x3
                have HS := HS2
                clear HS2
                go_roundg (q - lastSz l q)
                case measure => omega
                case rel => exact ⟨q - lastSz l q, Nat.le_refl _, by omega, hp, HS⟩
              · have t3 : (kls l (q - lastSz l q) == kls l j) = false := beq_eq_false_iff_ne.2 h3
                have hp := Aside0.mk (show q = backOn (sameB l (kls l j)) l j by rw [← HQ.out, backOn_eq _ l hq, if_neg (by simp [sameB, h3])])
                clear h3 HQ x0 x1 x2 x3
                go_wp2_with fail
                go_region_held3 (fun w' => w'.cell? ⟨w.heap.size + 1, 0, none⟩ = some (.int .i64 (q : Int)) ∧ w'.cell? ⟨w.heap.size, 0, none⟩ = some (.pointer (some ⟨g, 0, none⟩)) ∧ w'.cell? ⟨g, 0, none⟩ = some (.slice A l.length c)) (first | exact ⟨HS.out.cells.1, HS.out.cells.2.1, HS.out.wk.f0⟩ | exact ⟨(HS.out.two (below_drew (Below.refl _ _))).cells.1, (HS.out.two (below_drew (Below.refl _ _))).cells.2.1, (HS.out.two (below_drew (Below.refl _ _))).wk.f0⟩)
                  (first | (go_at_call 115; refine (ahead1_calls (HS.out.two (by first | exact Below.refl _ _ | exact below_drew (Below.refl _ _) | exact pw_below_drewN (Below.refl _ _) _)) hq).mono ?_; rintro e w9 ⟨rfl, hd⟩; have HT := Aside0.mk (HS.out.step (by first | exact Below.refl _ _ | exact below_drew (Below.refl _ _) | exact pw_below_drewN (Below.refl _ _) _) hd); clear hd HS; have HS := HT; clear HT) | (go_at_call 49; refine (c_class (HS.out.two (by first | exact Below.refl _ _ | exact below_drew (Below.refl _ _) | exact pw_below_drewN (Below.refl _ _) _)).wk.sl (q - lastSz l q)).mono ?_; rintro e w10 ⟨rfl, hd⟩; have HT := Aside0.mk (HS.out.step (by first | exact Below.refl _ _ | exact below_drew (Below.refl _ _) | exact pw_below_drewN (Below.refl _ _) _) hd); clear hd HS; have HS := HT; clear HT))
                obtain ⟨x0, x1, x2, x3⟩ := HS.out.cells
                go_wp2_with fail
                go_ret
                exact ⟨by rw [back_eq l hm, ← he.out, if_pos hc0.out, ← hp.out]; rfl, HS.out.bel⟩
            · have t2 : decide ((0 : Int) < (q : Int)) = false := decide_eq_false (by omega)
              have t2' : decide (0 < q) = false := decide_eq_false h2
              have hp := Aside0.mk (show q = backOn (sameB l (kls l j)) l j by rw [← HQ.out, backOn_eq _ l hq, if_neg (by omega)])
              clear HQ
              go_wp2_with fail
              go_quiet (fail)
              go_wp2_with fail
              go_ret
              exact ⟨by rw [back_eq l hm, ← he.out, if_pos hc0.out, ← hp.out]; rfl, (HS.out.two (pw_below_drewN (Below.refl _ _) _)).bel⟩
    · have t1 : decide ((0 : Int) < (j : Int)) = false := decide_eq_false (by omega)
      have t1' : decide (0 < j) = false := decide_eq_false h1
      have he := Aside0.mk (show j = back0 l m by rw [← HL.out, backOn_eq _ l hj, if_neg (by omega)])
      clear HL
      obtain ⟨x0, x1, x2, x3⟩ := HS.out.cells
      go_wp2_with fail
      go_quiet (fail)
      go_wp2_with fail
      clear t1 t1'
      refine region_tail 5 (by kernel_rfl) (by kernel_rfl) _ rfl ?_
      simp only [List.take_succ_cons, List.take_zero, List.drop_succ_cons, List.drop_zero]
      repeat still_step
      refine wpStill_nil ?_
      go_wp2_with fail
      refine (c_class (HS.out.two (by first | exact Below.refl _ _ | exact below_drew (Below.refl _ _) | exact pw_below_drewN (Below.refl _ _) _)).wk.sl j).mono ?_
      rintro e w11 ⟨rfl, hd⟩
      have HT := Aside0.mk (HS.out.step (by first | exact Below.refl _ _ | exact below_drew (Below.refl _ _) | exact pw_below_drewN (Below.refl _ _) _) hd)
      clear hd x0 x1 x2 x3 HS
      have HS := HT
      clear HT
      obtain ⟨x0, x1, x2, x3⟩ := HS.out.cells
      go_wp2_with fail
      by_cases hc : kls l j = 0
      · skip
        have t5 : (kls l j != 0) = false := by rw [bne, beq_iff_eq.2 hc]; rfl
        have hc0 := Aside0.mk hc
        clear hc
        go_loopg [29] 0 (fun gk v29 wr => Aside0 (Sb w wr (w.heap.size + 1) w.heap.size g j (Wk wr g A c l i n op key A2 c2 a cn)))
        case atStart => exact HS
        case round =>
          clear HS x0 x1 x2 x3
          have HS := hrel
          obtain ⟨x0, x1, x2, x3⟩ := HS.out.cells
          go_wp2_with fail
          go_quiet (fail)
          go_wp2_with fail
          go_ret
          exact ⟨by rw [back_eq l hm, ← he.out, if_neg (by simp [hc0.out])]; rfl, (HS.out.two (pw_below_drewN (Below.refl _ _) _)).bel⟩
      · skip
        have t5 : (kls l j != 0) = true := by rw [bne, beq_eq_false_iff_ne.2 hc]; rfl
        have hc0 := Aside0.mk hc
        clear hc
        go_loopg [29] j (fun gk v29 wr => ∃ (q : Nat), q ≤ gk ∧ q ≤ l.length ∧ Aside0 (backOn (sameB l (kls l j)) l q = backOn (sameB l (kls l j)) l j) ∧ Aside0 (Sb w wr (w.heap.size + 1) w.heap.size g q (Wk wr g A c l i n op key A2 c2 a cn)))
        case atStart => exact ⟨j, Nat.le_refl _, hj, ⟨rfl⟩, HS⟩
        case round =>
          clear HS x0 x1 x2 x3
          obtain ⟨q, hqg, hq, HQ, HS⟩ := hrel
          obtain ⟨x0, x1, x2, x3⟩ := HS.out.cells
          by_cases h2 : 0 < q
          · have t2 : decide ((0 : Int) < (q : Int)) = true := decide_eq_true (by omega)
            have t2' : decide (0 < q) = true := decide_eq_true h2
            have hzq := lastSz_pos (l := l) (i := q) (by omega) hq
            by_cases h3 : kls l (q - lastSz l q) = kls l j
            · have t3 : (kls l (q - lastSz l q) == kls l j) = true := beq_iff_eq.2 h3
              have hp := Aside0.mk (show backOn (sameB l (kls l j)) l (q - lastSz l q) = backOn (sameB l (kls l j)) l j by rw [← HQ.out, backOn_eq _ l hq, if_pos ⟨h2, by simp [sameB, h3]⟩])
              clear h3 HQ x0 x1 x2 x3
              go_wp2_with fail
              go_region_held3 (fun w' => w'.cell? ⟨w.heap.size + 1, 0, none⟩ = some (.int .i64 (q : Int)) ∧ w'.cell? ⟨w.heap.size, 0, none⟩ = some (.pointer (some ⟨g, 0, none⟩)) ∧ w'.cell? ⟨g, 0, none⟩ = some (.slice A l.length c)) (first | exact ⟨HS.out.cells.1, HS.out.cells.2.1, HS.out.wk.f0⟩ | exact ⟨(HS.out.two (below_drew (Below.refl _ _))).cells.1, (HS.out.two (below_drew (Below.refl _ _))).cells.2.1, (HS.out.two (below_drew (Below.refl _ _))).wk.f0⟩)
                (first | (go_at_call 115; refine (ahead1_calls (HS.out.two (by first | exact Below.refl _ _ | exact below_drew (Below.refl _ _) | exact pw_below_drewN (Below.refl _ _) _)) hq).mono ?_; rintro e w7 ⟨rfl, hd⟩; have HT := Aside0.mk (HS.out.step (by first | exact Below.refl _ _ | exact below_drew (Below.refl _ _) | exact pw_below_drewN (Below.refl _ _) _) hd); clear hd HS; have HS := HT; clear HT) | (go_at_call 49; refine (c_class (HS.out.two (by first | exact Below.refl _ _ | exact below_drew (Below.refl _ _) | exact pw_below_drewN (Below.refl _ _) _)).wk.sl (q - lastSz l q)).mono ?_; rintro e w8 ⟨rfl, hd⟩; have HT := Aside0.mk (HS.out.step (by first | exact Below.refl _ _ | exact below_drew (Below.refl _ _) | exact pw_below_drewN (Below.refl _ _) _) hd); clear hd HS; have HS := HT; clear HT))
              obtain ⟨x0, x1, x2, x3⟩ := HS.out.cells
              go_wp2_with fail
              refine (ahead1_calls (HS.out.two (by first | exact Below.refl _ _ | exact below_drew (Below.refl _ _) | exact pw_below_drewN (Below.refl _ _) _)) hq).mono ?_
              rintro e w6 ⟨rfl, hd⟩
              have HT := Aside0.mk (HS.out.step (by first | exact Below.refl _ _ | exact below_drew (Below.refl _ _) | exact pw_below_drewN (Below.refl _ _) _) hd)
              clear hd x0 x1 x2 x3 HS
              have HS := HT
              clear HT
              obtain ⟨x0, x1, x2, x3⟩ := HS.out.cells
              go_wp2_with fail
              have HS2 := Aside0.mk (HS.out.set_ HW0.out (q - lastSz l q))
              clear HS x0 x1 x2 x3
              have HS := HS2
              clear HS2
              go_roundg (q - lastSz l q)
              case measure => omega
              case rel => exact ⟨q - lastSz l q, Nat.le_refl _, by omega, hp, HS⟩
            · have t3 : (kls l (q - lastSz l q) == kls l j) = false := beq_eq_false_iff_ne.2 h3
              have hp := Aside0.mk (show q = backOn (sameB l (kls l j)) l j by rw [← HQ.out, backOn_eq _ l hq, if_neg (by simp [sameB, h3])])
              clear h3 HQ x0 x1 x2 x3
              go_wp2_with fail
              go_region_held3 (fun w' => w'.cell? ⟨w.heap.size + 1, 0, none⟩ = some (.int .i64 (q : Int)) ∧ w'.cell? ⟨w.heap.size, 0, none⟩ = some (.pointer (some ⟨g, 0, none⟩)) ∧ w'.cell? ⟨g, 0, none⟩ = some (.slice A l.length c)) (first | exact ⟨HS.out.cells.1, HS.out.cells.2.1, HS.out.wk.f0⟩ | exact ⟨(HS.out.two (below_drew (Below.refl _ _))).cells.1, (HS.out.two (below_drew (Below.refl _ _))).cells.2.1, (HS.out.two (below_drew (Below.refl _ _))).wk.f0⟩)
                (first | (go_at_call 115; refine (ahead1_calls (HS.out.two (by first | exact Below.refl _ _ | exact below_drew (Below.refl _ _) | exact pw_below_drewN (Below.refl _ _) _)) hq).mono ?_; rintro e w9 ⟨rfl, hd⟩; have HT := Aside0.mk (HS.out.step (by first | exact Below.refl _ _ | exact below_drew (Below.refl _ _) | exact pw_below_drewN (Below.refl _ _) _) hd); clear hd HS; have HS := HT; clear HT) | (go_at_call 49; refine (c_class (HS.out.two (by first | exact Below.refl _ _ | exact below_drew (Below.refl _ _) | exact pw_below_drewN (Below.refl _ _) _)).wk.sl (q - lastSz l q)).mono ?_; rintro e w10 ⟨rfl, hd⟩; have HT := Aside0.mk (HS.out.step (by first | exact Below.refl _ _ | exact below_drew (Below.refl _ _) | exact pw_below_drewN (Below.refl _ _) _) hd); clear hd HS; have HS := HT; clear HT))
              obtain ⟨x0, x1, x2, x3⟩ := HS.out.cells
              go_wp2_with fail
              go_ret
              exact ⟨by rw [back_eq l hm, ← he.out, if_pos hc0.out, ← hp.out]; rfl, HS.out.bel⟩
          · have t2 : decide ((0 : Int) < (q : Int)) = false := decide_eq_false (by omega)
            have t2' : decide (0 < q) = false := decide_eq_false h2
            have hp := Aside0.mk (show q = backOn (sameB l (kls l j)) l j by rw [← HQ.out, backOn_eq _ l hq, if_neg (by omega)])
            clear HQ
            go_wp2_with fail
            go_quiet (fail)
            go_wp2_with fail
            go_ret
            exact ⟨by rw [back_eq l hm, ← he.out, if_pos hc0.out, ← hp.out]; rfl, (HS.out.two (pw_below_drewN (Below.refl _ _) _)).bel⟩
end
end Go.Proofs.Ytiibjehnlphabaa

end

section
namespace Go.Proofs.Ytiibjehnlphabaa
open Go.RowKit Go.Proofs.YtiibjehnlphabaaW.PrintWords Go.Proofs.YtiibjehnlphabaaW.PrintMore Q
set_option linter.unusedVariables false
set_option linter.unusedSimpArgs false
section
variable {w : World} {g : Nat} {A : Option Addr} {c : Nat} {l : List Int} {i : Nat} {n : Nat} {op : Bool} {key : ByteArray} {A2 : Option Addr} {c2 : Nat} {a : List Int} {cn : Int}
set_option maxHeartbeats 800000 in
set_option maxRecDepth 100000 in
theorem backs_calls (hW : Wk w g A c l i n op key A2 c2 a cn) (o : Option Gl) (h : (if 0 < i then some (plain_ (backsN l n i)) else none) = o) :
    Calls Try.prog 66 #[.pointer (some ⟨g, 0, none⟩)] w fun e w' => e = endG o ∧ Below w.heap.size w w' := by
  have HO := Aside0.mk h
  clear h
  have HS := Aside0.mk (St.begin_ hW)
  have hn1 := hW.n1
  have hn2 := hW.n2
  have hi := begins_le hW.beg
  have hsz := hW.sl.ok.size
  clear hW
  obtain ⟨f0, f1, f2, f3, f4, f5, f6, _, _, _, _, _⟩ := HS.out.wk
  go_enter Try.func66, Try.ntmps66
  by_cases hs : 0 < i
  · have t0 : decide ((0 : Int) < (i : Int)) = true := decide_eq_true (by omega)
    have t0' : decide (0 < i) = true := decide_eq_true hs
    go_wp2_with (first | (go_at_call 92; refine (must_ok _).mono ?_; rintro e wm ⟨rfl, rfl⟩) | (go_at_call 92; refine (must_no _).mono ?_; rintro e wm ⟨rfl, rfl⟩))
    clear t0 t0'
    go_loopw [3, 4] (fun v3 v4 wr => ∃ (k j : Nat), v4 = .int .i64 k ∧ v3 = .int .i64 j ∧ k ≤ n ∧ j ≤ l.length ∧ Aside0 (backsN l (n - k) j = backsN l n i) ∧ Aside0 (St w wr w.heap.size (Wk wr g A c l i n op key A2 c2 a cn))) (fun _ v4 _ => n - (intOf v4).toNat)
    case atStart => exact ⟨0, i, rfl, rfl, by omega, hi, ⟨rfl⟩, HS⟩
    case round =>
      clear f0 f1 f2 f3 f4 f5 f6 HS
      obtain ⟨k, j, rfl, rfl, hk, hj, HL, HS⟩ := hrel
      obtain ⟨f0, f1, f2, f3, f4, f5, f6, _, _, _, _, _⟩ := HS.out.wk
      by_cases h1 : k < n
      · skip
        have t1 : decide ((k : Int) < (n : Int)) = true := decide_eq_true (by omega)
        have t1' : decide (k < n) = true := decide_eq_true (by omega)
        by_cases h2 : 0 < j
        · have t2 : decide ((0 : Int) < (j : Int)) = true := decide_eq_true (by omega)
          have t2' : decide (0 < j) = true := decide_eq_true h2
          have hle := back_le l hj
          go_wp2_with fail
          refine (back_calls (HS.out.two (by first | exact Below.refl _ _ | exact below_drew (Below.refl _ _) | exact pw_below_drewN (Below.refl _ _) _)).wk j hj).mono ?_
          rintro e w1 ⟨rfl, hd⟩
          have HT := Aside0.mk (HS.out.step (by first | exact Below.refl _ _ | exact below_drew (Below.refl _ _) | exact pw_below_drewN (Below.refl _ _) _) hd)
          clear hd f0 f1 f2 f3 f4 f5 f6 HS t1 t1' t2 t2'
          have HS := HT
          clear HT
          obtain ⟨f0, f1, f2, f3, f4, f5, f6, _, _, _, _, _⟩ := HS.out.wk
          go_wp2_with fail
          go_roundw
          case rel => exact ⟨k + 1, back l j, by go_num, by go_num, by omega, by omega, ⟨by rw [← HL.out]; exact (backsN_more l h1 h2).symm⟩, HS⟩
          case measure => simp [intOf]; omega
        · have t2 : decide ((0 : Int) < (j : Int)) = false := decide_eq_false (by omega)
          have t2' : decide (0 < j) = false := decide_eq_false h2
          obtain ⟨r0, r1, r2, z⟩ := HS.out.res.cell
          have z0 := z 0
          have z1 := z 1
          have z2 := z 2
          clear z
          go_wp2_with fail
          exact goal_postG HS.out rfl rfl (by rw [← HO.out, if_pos hs, ← HL.out, backsN_end l (by omega)]; rfl)
      · skip
        have t1 : decide ((k : Int) < (n : Int)) = false := decide_eq_false (by omega)
        have t1' : decide (k < n) = false := decide_eq_false (by omega)
        obtain ⟨r0, r1, r2, z⟩ := HS.out.res.cell
        have z0 := z 0
        have z1 := z 1
        have z2 := z 2
        clear z
        go_wp2_with fail
        exact goal_postG HS.out rfl rfl (by rw [← HO.out, if_pos hs, ← HL.out, backsN_end l (by omega)]; rfl)
  · have t0 : decide ((0 : Int) < (i : Int)) = false := decide_eq_false (by omega)
    have t0' : decide (0 < i) = false := decide_eq_false hs
    go_wp2_with (first | (go_at_call 92; refine (must_ok _).mono ?_; rintro e wm ⟨rfl, rfl⟩) | (go_at_call 92; refine (must_no _).mono ?_; rintro e wm ⟨rfl, rfl⟩))
    obtain rfl : none = o := by rw [← HO.out, if_neg hs]
    exact ⟨rfl, rfl, HS.out.bel⟩

set_option maxHeartbeats 400000 in
set_option maxRecDepth 100000 in
theorem letter_ok (hW : Wk w g A c l i n op key A2 c2 a cn) (h : one a = true) :
    Calls Try.prog 116 #[.pointer (some ⟨g, 0, none⟩)] w fun e w' => e = .returned (.tuple #[]) ∧ Below w.heap.size w w' := by
  simp only [one, Bool.and_eq_true, decide_eq_true_eq] at h
  obtain ⟨h1, h2⟩ := h
  have HS := Aside0.mk (Su.begin_ hW)
  have hn1 := hW.n1
  have hn2 := hW.n2
  have hi := begins_le hW.beg
  have hsz := hW.sl.ok.size
  clear hW
  obtain ⟨f0, f1, f2, f3, f4, f5, f6, _, _, _, _, _⟩ := HS.out.wk
  go_enter Try.func116, Try.ntmps116
  go_wp2_with fail
  have hA : Calls Try.prog 21 #[.slice A2 a.length c2, .int .i64 0] w fun e w' => e = .returned (.tuple #[.int .i64 (rn a 0), .int .i64 (sz a 0 : Int)]) ∧ Below w.heap.size w w' := c_next HS.out.wk.sa 0
  refine (hA).mono ?_
  rintro e w2 ⟨rfl, hd⟩
  have HT := Aside0.mk (HS.out.step (by first | exact Below.refl _ _ | exact below_drew (Below.refl _ _) | exact pw_below_drewN (Below.refl _ _) _) hd)
  clear hd f0 f1 f2 f3 f4 f5 f6 HS hA
  have HS := HT
  clear HT
  obtain ⟨f0, f1, f2, f3, f4, f5, f6, _, _, _, _, _⟩ := HS.out.wk
  have t1 : decide ((0 : Int) < (sz a 0 : Int)) = true := decide_eq_true (by omega)
  have t1' : decide (0 < sz a 0) = true := decide_eq_true h1
  have te : (((sz a 0 : Nat) : Int) == ((a.length : Nat) : Int)) = true := beq_iff_eq.2 (by omega)
  have te' : (((sz a 0 : Nat) : Int) != ((a.length : Nat) : Int)) = false := by rw [bne, te]; rfl
  have ten : (sz a 0 == a.length) = true := beq_iff_eq.2 (by omega)
  have ten' : (sz a 0 != a.length) = false := by rw [bne, ten]; rfl
  clear h1 h2
  go_wp2_with (first | (go_at_call 92; refine (must_ok _).mono ?_; rintro e wm ⟨rfl, rfl⟩) | (go_at_call 92; refine (must_no _).mono ?_; rintro e wm ⟨rfl, rfl⟩))
  go_end0
  exact ⟨rfl, HS.out.bel⟩

set_option maxHeartbeats 400000 in
set_option maxRecDepth 100000 in
theorem letter_no (hW : Wk w g A c l i n op key A2 c2 a cn) (h : one a = false) :
    Calls Try.prog 116 #[.pointer (some ⟨g, 0, none⟩)] w fun e w' => e = .panicked thrown ∧ Below w.heap.size w w' := by
  have ho := Aside0.mk h
  clear h
  have HS := Aside0.mk (Su.begin_ hW)
  have hn1 := hW.n1
  have hn2 := hW.n2
  have hi := begins_le hW.beg
  have hsz := hW.sl.ok.size
  clear hW
  obtain ⟨f0, f1, f2, f3, f4, f5, f6, _, _, _, _, _⟩ := HS.out.wk
  go_enter Try.func116, Try.ntmps116
  go_wp2_with fail
  have hA : Calls Try.prog 21 #[.slice A2 a.length c2, .int .i64 0] w fun e w' => e = .returned (.tuple #[.int .i64 (rn a 0), .int .i64 (sz a 0 : Int)]) ∧ Below w.heap.size w w' := c_next HS.out.wk.sa 0
  refine (hA).mono ?_
  rintro e w3 ⟨rfl, hd⟩
  have HT := Aside0.mk (HS.out.step (by first | exact Below.refl _ _ | exact below_drew (Below.refl _ _) | exact pw_below_drewN (Below.refl _ _) _) hd)
  clear hd f0 f1 f2 f3 f4 f5 f6 HS hA
  have HS := HT
  clear HT
  obtain ⟨f0, f1, f2, f3, f4, f5, f6, _, _, _, _, _⟩ := HS.out.wk
  by_cases h1 : 0 < sz a 0
  · have t1 : decide ((0 : Int) < (sz a 0 : Int)) = true := decide_eq_true (by omega)
    have t1' : decide (0 < sz a 0) = true := decide_eq_true h1
    have h2 : ¬ sz a 0 = a.length := fun h2 => by have := ho.out; simp [one, h2 ▸ h1, h2] at this
    have te : (((sz a 0 : Nat) : Int) == ((a.length : Nat) : Int)) = false := beq_eq_false_iff_ne.2 (by omega)
    have te' : (((sz a 0 : Nat) : Int) != ((a.length : Nat) : Int)) = true := by rw [bne, te]; rfl
    have ten : (sz a 0 == a.length) = false := beq_eq_false_iff_ne.2 (by omega)
    have ten' : (sz a 0 != a.length) = true := by rw [bne, ten]; rfl
    go_wp2_with (first | (go_at_call 92; refine (must_ok _).mono ?_; rintro e wm ⟨rfl, rfl⟩) | (go_at_call 92; refine (must_no _).mono ?_; rintro e wm ⟨rfl, rfl⟩))
    exact ⟨rfl, rfl, HS.out.bel⟩
  · have t1 : decide ((0 : Int) < (sz a 0 : Int)) = false := decide_eq_false (by omega)
    have t1' : decide (0 < sz a 0) = false := decide_eq_false h1
    go_wp2_with (first | (go_at_call 92; refine (must_ok _).mono ?_; rintro e wm ⟨rfl, rfl⟩) | (go_at_call 92; refine (must_no _).mono ?_; rintro e wm ⟨rfl, rfl⟩))
    exact ⟨rfl, rfl, HS.out.bel⟩

theorem equal_is {l a : List Int} (ok : OkL l) (oa : OkL a) (i : Nat) : bytes_Equal.f ((l.take (on l i)).drop i) a = some (isAt l a i) := by
  unfold bytes_Equal.f isAt
  have e : (l.take (on l i)).drop i = (l.drop i).take (sz l i) := by
    unfold on
    rw [List.drop_take, Nat.add_sub_cancel_left]
  rw [e]
  congr 1
  rw [Bool.eq_iff_iff, beq_iff_eq, decide_eq_true_eq, Lib.strOfNums_toList, Lib.strOfNums_toList]
  constructor
  · intro h
    exact bytesOf_inj (((ok.drop i).take _).bytes) oa.bytes h
  · intro h
    rw [h]

theorem c_equal (h : Sl w A c l) (ha : Sl w A2 c2 a) {j : Nat} (hj : j ≤ l.length) : Calls Try.prog 118 #[.slice (if c = j then A else Option.map (fun x => x.add j) A) (on l j - j) (c - j), .slice A2 a.length c2] w fun e w' => e = .returned (.bool (isAt l a j)) ∧ Drawn0 w w' := by
  have ho := on_le hj
  have hcap := h.cap
  have hl1 : (l.take (on l j)).length = on l j := by rw [List.length_take]; omega
  have hl2 : ((l.take (on l j)).drop j).length = on l j - j := by rw [List.length_drop, hl1]
  have r1 := Kd.C_drop (m := j) (Kd.C_take (m := on l j) h.reads ho.2) (by omega) (c := c) (by omega)
  have h2 := bytes_Equal.calls (if c = j then A else A.map (·.add (j * (Kd.int .u8).sz))) (c - j) ((l.take (on l j)).drop j) A2 c2 a _ w r1 (by omega) ha.reads ha.cap (equal_is h.ok ha.ok j)
  rw [hl2] at h2
  simpa [show (Kd.int .u8).sz = 1 from rfl] using h2
theorem c_equal1 (h : Sl w A c l) (ha : Sl w A2 c2 a) {j : Nat} (hj : j ≤ l.length) (hc : ¬ c = j) : Calls Try.prog 118 #[.slice (Option.map (fun x => x.add j) A) (on l j - j) (c - j), .slice A2 a.length c2] w fun e w' => e = .returned (.bool (isAt l a j)) ∧ Drawn0 w w' := by
  have := c_equal h ha hj
  rwa [if_neg hc] at this
theorem c_equal2 {j : Nat} (h : Sl w A j l) (ha : Sl w A2 c2 a) (hj : j ≤ l.length) : Calls Try.prog 118 #[.slice A (on l j - j) 0, .slice A2 a.length c2] w fun e w' => e = .returned (.bool (isAt l a j)) ∧ Drawn0 w w' := by
  have := c_equal h ha hj
  rwa [if_pos rfl, Nat.sub_self] at this

set_option maxHeartbeats 400000 in
set_option maxRecDepth 100000 in
theorem is_calls (hW : Wk w g A c l i n op key A2 c2 a cn) (j : Nat) (hj : j ≤ l.length) :
    Calls Try.prog 117 #[.pointer (some ⟨g, 0, none⟩), .int .i64 (j : Int)] w fun e w' => e = .returned (.bool (isAt l a j)) ∧ Below w.heap.size w w' := by
  have ho := on_le hj
  have hcap := hW.sl.cap
  have b1 : (0 : Int) ≤ (j : Int) := by omega
  have b2 : (j : Int) ≤ (on l j : Int) := by omega
  have b3 : (on l j : Int) ≤ (c : Int) := by omega
  by_cases hcj : c = j
  · subst hcj
    have HS := Aside0.mk (Su.begin_ hW)
    have hn1 := hW.n1
    have hn2 := hW.n2
    have hi := begins_le hW.beg
    have hsz := hW.sl.ok.size
    clear hW
    obtain ⟨f0, f1, f2, f3, f4, f5, f6, _, _, _, _, _⟩ := HS.out.wk
    go_enter Try.func117, Try.ntmps117
    go_wp2_with fail
    clear f0 f1 f2 f3 f4 f5 f6
    go_region_held3 (fun w' => w'.cell? ⟨g, 0, none⟩ = some (.slice A l.length c) ∧ w'.cell? ⟨g, 5, none⟩ = some (.slice A2 a.length c2)) (first | exact ⟨HS.out.wk.f0, HS.out.wk.f5⟩ | exact ⟨(HS.out.two (below_drew (Below.refl _ _))).wk.f0, (HS.out.two (below_drew (Below.refl _ _))).wk.f5⟩)
      (first | (go_at_call 48; refine (c_on (HS.out.two (by first | exact Below.refl _ _ | exact below_drew (Below.refl _ _) | exact pw_below_drewN (Below.refl _ _) _)).wk.sl hj).mono ?_; rintro e w6 ⟨rfl, hd⟩; have HT := Aside0.mk (HS.out.step (by first | exact Below.refl _ _ | exact below_drew (Below.refl _ _) | exact pw_below_drewN (Below.refl _ _) _) hd); clear hd HS; have HS := HT; clear HT) | (go_at_call 118; refine (c_equal2 HS.out.wk.sl HS.out.wk.sa hj).mono ?_; rintro e w7 ⟨rfl, hd⟩; have HT := Aside0.mk (HS.out.step (by first | exact Below.refl _ _ | exact below_drew (Below.refl _ _) | exact pw_below_drewN (Below.refl _ _) _) hd.below); clear hd HS; have HS := HT; clear HT))
    go_wp2_with fail
    go_ret
    exact ⟨rfl, HS.out.bel⟩
  · skip
    have HS := Aside0.mk (Su.begin_ hW)
    have hn1 := hW.n1
    have hn2 := hW.n2
    have hi := begins_le hW.beg
    have hsz := hW.sl.ok.size
    clear hW
    obtain ⟨f0, f1, f2, f3, f4, f5, f6, _, _, _, _, _⟩ := HS.out.wk
    go_enter Try.func117, Try.ntmps117
    go_wp2_with fail
    clear f0 f1 f2 f3 f4 f5 f6
    go_region_held3 (fun w' => w'.cell? ⟨g, 0, none⟩ = some (.slice A l.length c) ∧ w'.cell? ⟨g, 5, none⟩ = some (.slice A2 a.length c2)) (first | exact ⟨HS.out.wk.f0, HS.out.wk.f5⟩ | exact ⟨(HS.out.two (below_drew (Below.refl _ _))).wk.f0, (HS.out.two (below_drew (Below.refl _ _))).wk.f5⟩)
      (first | (go_at_call 48; refine (c_on (HS.out.two (by first | exact Below.refl _ _ | exact below_drew (Below.refl _ _) | exact pw_below_drewN (Below.refl _ _) _)).wk.sl hj).mono ?_; rintro e w4 ⟨rfl, hd⟩; have HT := Aside0.mk (HS.out.step (by first | exact Below.refl _ _ | exact below_drew (Below.refl _ _) | exact pw_below_drewN (Below.refl _ _) _) hd); clear hd HS; have HS := HT; clear HT) | (go_at_call 118; refine (c_equal1 HS.out.wk.sl HS.out.wk.sa hj hcj).mono ?_; rintro e w5 ⟨rfl, hd⟩; have HT := Aside0.mk (HS.out.step (by first | exact Below.refl _ _ | exact below_drew (Below.refl _ _) | exact pw_below_drewN (Below.refl _ _) _) hd.below); clear hd HS; have HS := HT; clear HT))
    go_wp2_with fail
    go_ret
    exact ⟨rfl, HS.out.bel⟩

theorem aheadN_more (l a : List Int) (tt : Nat) : ∀ (f f' n i : Nat), tt - i ≤ f → tt - i ≤ f' → tt ≤ l.length → aheadN l a tt f n i = aheadN l a tt f' n i
  | 0, 0, _, _, _, _, _ => rfl
  | 0, f' + 1, n, i, h, _, _ => by
    simp only [aheadN]
    rw [if_neg (by omega)]
  | f + 1, 0, n, i, _, h, _ => by
    simp only [aheadN]
    rw [if_neg (by omega)]
  | f + 1, f' + 1, n, i, h, h', ht => by
    simp only [aheadN]
    by_cases hc : i < tt
    · have hg := on_gt (show i < l.length by omega)
      rw [if_pos hc, if_pos hc, aheadN_more l a tt f f' (n - 1) _ (by omega) (by omega) ht, aheadN_more l a tt f f' n _ (by omega) (by omega) ht]
    · rw [if_neg hc, if_neg hc]
/-- The n-th place on. -/
def aheadOn (l a : List Int) (tt n i : Nat) : Option Nat := aheadN l a tt (tt - i) n i
theorem aheadOn_eq (l a : List Int) {tt : Nat} (ht : tt ≤ l.length) (n i : Nat) : aheadOn l a tt n i = if i < tt then (if on l i < tt ∧ isAt l a (on l i) = true then (if n = 1 then some (on l i) else aheadOn l a tt (n - 1) (on l i)) else aheadOn l a tt n (on l i)) else none := by
  unfold aheadOn
  by_cases hc : i < tt
  · obtain ⟨f, hf⟩ : ∃ f, tt - i = f + 1 := ⟨tt - i - 1, by omega⟩
    have hg := on_gt (show i < l.length by omega)
    rw [hf, if_pos hc]
    simp only [aheadN]
    rw [if_pos hc, aheadN_more l a tt f (tt - on l i) (n - 1) _ (by omega) (by omega) ht, aheadN_more l a tt f (tt - on l i) n _ (by omega) (by omega) ht]
  · rw [if_neg hc, show tt - i = 0 by omega]
    rfl
theorem behindN_more (l a : List Int) (s : Nat) : ∀ (f f' n i : Nat), i - s ≤ f → i - s ≤ f' → i ≤ l.length → behindN l a s f n i = behindN l a s f' n i
  | 0, 0, _, _, _, _, _ => rfl
  | 0, f' + 1, n, i, h, _, _ => by
    simp only [behindN]
    rw [if_neg (by omega)]
  | f + 1, 0, n, i, _, h, _ => by
    simp only [behindN]
    rw [if_neg (by omega)]
  | f + 1, f' + 1, n, i, h, h', ht => by
    simp only [behindN]
    by_cases hc : s < i
    · have hg := lastSz_pos (l := l) (i := i) (by omega) ht
      rw [if_pos hc, if_pos hc, behindN_more l a s f f' (n - 1) _ (by omega) (by omega) (by omega), behindN_more l a s f f' n _ (by omega) (by omega) (by omega)]
    · rw [if_neg hc, if_neg hc]
def behindOn (l a : List Int) (s n i : Nat) : Option Nat := behindN l a s (i - s) n i
theorem behindOn_eq (l a : List Int) {s : Nat} (n : Nat) {i : Nat} (ht : i ≤ l.length) : behindOn l a s n i = if s < i then (if isAt l a (i - lastSz l i) = true then (if n = 1 then some (i - lastSz l i) else behindOn l a s (n - 1) (i - lastSz l i)) else behindOn l a s n (i - lastSz l i)) else none := by
  unfold behindOn
  by_cases hc : s < i
  · obtain ⟨f, hf⟩ : ∃ f, i - s = f + 1 := ⟨i - s - 1, by omega⟩
    have hg := lastSz_pos (l := l) (i := i) (by omega) ht
    rw [hf, if_pos hc]
    simp only [behindN]
    rw [if_pos hc, behindN_more l a s f (i - lastSz l i - s) (n - 1) _ (by omega) (by omega) (by omega), behindN_more l a s f (i - lastSz l i - s) n _ (by omega) (by omega) (by omega)]
  · rw [if_neg hc, show i - s = 0 by omega]
    rfl
theorem ahead_eq (l a : List Int) (n : Nat) {i : Nat} (hi : i ≤ l.length) : ahead l a n i = if one a = true then aheadOn l a (fin l i) n i else none := by
  have hf := fin_le hi
  unfold ahead aheadOn
  rw [aheadN_more l a (fin l i) l.length (fin l i - i) n i (by omega) (by omega) hf.2]
theorem behind_eq (l a : List Int) (n : Nat) {i : Nat} (hi : i ≤ l.length) : behind l a n i = if one a = true then behindOn l a (start l i) n i else none := by
  have hf := start_le l i
  unfold behind behindOn
  rw [behindN_more l a (start l i) l.length (i - start l i) n i (by omega) (by omega) hi]

set_option maxHeartbeats 1000000 in
set_option maxRecDepth 100000 in
theorem ahead_calls (hW : Wk w g A c l i n op key A2 c2 a cn) (o : Option Nat) (h : ahead l a n i = o) :
    Calls Try.prog 100 #[.pointer (some ⟨g, 0, none⟩)] w fun e w' => e = endI o ∧ Below w.heap.size w w' := by
  rw [ahead_eq l a n (begins_le hW.beg)] at h
  have hf := fin_le (begins_le hW.beg)
  by_cases h1 : one a = true
  · rw [if_pos h1] at h
    have HO := Aside0.mk h
    have h1' := Aside0.mk h1
    clear h h1
    have HS := Aside0.mk (Su.begin_ hW)
    have hn1 := hW.n1
    have hn2 := hW.n2
    have hi := begins_le hW.beg
    have hsz := hW.sl.ok.size
    clear hW
    obtain ⟨f0, f1, f2, f3, f4, f5, f6, _, _, _, _, _⟩ := HS.out.wk
    go_enter Try.func100, Try.ntmps100
    go_wp2_with fail
    refine (letter_ok (HS.out.two (by first | exact Below.refl _ _ | exact below_drew (Below.refl _ _) | exact pw_below_drewN (Below.refl _ _) _)).wk h1'.out).mono ?_
    rintro e w8 ⟨rfl, hd⟩
    have HT := Aside0.mk (HS.out.step (by first | exact Below.refl _ _ | exact below_drew (Below.refl _ _) | exact pw_below_drewN (Below.refl _ _) _) hd)
    clear hd f0 f1 f2 f3 f4 f5 f6 HS
    have HS := HT
    clear HT
    obtain ⟨f0, f1, f2, f3, f4, f5, f6, _, _, _, _, _⟩ := HS.out.wk
    go_wp2_with fail
    refine region_tail 8 (by kernel_rfl) (by kernel_rfl) _ rfl ?_
    simp only [List.take_succ_cons, List.take_zero, List.drop_succ_cons, List.drop_zero]
    repeat still_step
    refine wpStill_nil ?_
    go_wp2_with fail
    refine (c_end (HS.out.two (by first | exact Below.refl _ _ | exact below_drew (Below.refl _ _) | exact pw_below_drewN (Below.refl _ _) _)).wk.sl hi).mono ?_
    rintro e w10 ⟨rfl, hd⟩
    have HT := Aside0.mk (HS.out.step (by first | exact Below.refl _ _ | exact below_drew (Below.refl _ _) | exact pw_below_drewN (Below.refl _ _) _) hd.below)
    clear hd f0 f1 f2 f3 f4 f5 f6 HS
    have HS := HT
    clear HT
    obtain ⟨f0, f1, f2, f3, f4, f5, f6, _, _, _, _, _⟩ := HS.out.wk
    go_wp2_with fail
    go_loopw [4, 5] (fun v4 v5 wr => ∃ (k j : Nat), v4 = .int .i64 k ∧ v5 = .int .i64 j ∧ k < n ∧ j ≤ l.length ∧ Aside0 (aheadOn l a (fin l i) (n - k) j = o) ∧ Aside0 (Su w wr (Wk wr g A c l i n op key A2 c2 a cn))) (fun _ v5 _ => l.length - (intOf v5).toNat)
    case atStart => exact ⟨0, i, rfl, rfl, by omega, hi, HO, HS⟩
    case round =>
      clear f0 f1 f2 f3 f4 f5 f6 HS HO
      obtain ⟨k, j, rfl, rfl, hk, hj, HO, HS⟩ := hrel
      obtain ⟨f0, f1, f2, f3, f4, f5, f6, _, _, _, _, _⟩ := HS.out.wk
      have HE := Aside0.mk (HO.out.symm.trans (aheadOn_eq l a hf.2 (n - k) j))
      clear HO
      by_cases h2 : j < fin l i
      · skip
        have t2 : decide ((j : Int) < (fin l i : Int)) = true := decide_eq_true (by omega)
        have t2' : decide (j < fin l i) = true := decide_eq_true (by omega)
        have hg := on_gt (show j < l.length by omega)
        have HE2 := Aside0.mk (HE.out.trans (if_pos h2))
        clear HE
        go_wp2_with fail
        refine (c_on (HS.out.two (by first | exact Below.refl _ _ | exact below_drew (Below.refl _ _) | exact pw_below_drewN (Below.refl _ _) _)).wk.sl hj).mono ?_
        rintro e w11 ⟨rfl, hd⟩
        have HT := Aside0.mk (HS.out.step (by first | exact Below.refl _ _ | exact below_drew (Below.refl _ _) | exact pw_below_drewN (Below.refl _ _) _) hd)
        clear hd f0 f1 f2 f3 f4 f5 f6 HS t2 t2'
        have HS := HT
        clear HT
        obtain ⟨f0, f1, f2, f3, f4, f5, f6, _, _, _, _, _⟩ := HS.out.wk
        by_cases h3 : on l j < fin l i
        · skip
          have t3 : decide ((on l j : Int) < (fin l i : Int)) = true := decide_eq_true (by omega)
          have t3' : decide (on l j < fin l i) = true := decide_eq_true (by omega)
          go_wp2_with fail
          refine (is_calls (HS.out.two (by first | exact Below.refl _ _ | exact below_drew (Below.refl _ _) | exact pw_below_drewN (Below.refl _ _) _)).wk (on l j) hg.2.1).mono ?_
          rintro e w12 ⟨rfl, hd⟩
          have HT := Aside0.mk (HS.out.step (by first | exact Below.refl _ _ | exact below_drew (Below.refl _ _) | exact pw_below_drewN (Below.refl _ _) _) hd)
          clear hd f0 f1 f2 f3 f4 f5 f6 HS t3 t3'
          have HS := HT
          clear HT
          obtain ⟨f0, f1, f2, f3, f4, f5, f6, _, _, _, _, _⟩ := HS.out.wk
          by_cases h4 : isAt l a (on l j) = true
          · have HE3 := Aside0.mk (HE2.out.trans (if_pos ⟨h3, h4⟩))
            clear HE2
            have h4' := Aside0.mk h4
            rw [h4]
            clear h4
            by_cases h5 : k + 1 = n
            · have te : (((k : Nat) : Int) + 1 == (n : Int)) = true := beq_iff_eq.2 (by omega)
              have HE4 := Aside0.mk (HE3.out.trans (if_pos (show n - k = 1 by omega)))
              clear h5
              go_wp2_with fail
              go_ret
              exact ⟨by rw [HE4.out]; rfl, HS.out.bel⟩
            · have te : (((k : Nat) : Int) + 1 == (n : Int)) = false := beq_eq_false_iff_ne.2 (by omega)
              have HE4 := Aside0.mk (HE3.out.trans (if_neg (show ¬ n - k = 1 by omega)))
              go_wp2_with fail
              go_roundw
              case rel => exact ⟨k + 1, on l j, by go_num, by go_num, by omega, by omega, ⟨by rw [HE4.out, show n - (k + 1) = n - k - 1 by omega]⟩, HS⟩
              case measure => simp [intOf]; omega
          · have HE3 := Aside0.mk (HE2.out.trans (if_neg (fun h => h4 h.2)))
            clear HE2
            have h4' : isAt l a (on l j) = false := by simpa using h4
            rw [h4']
            clear h4 h4'
            go_wp2_with fail
            go_roundw
            case rel => exact ⟨k, on l j, by go_num, by go_num, by omega, by omega, ⟨HE3.out.symm⟩, HS⟩
            case measure => simp [intOf]; omega
        · skip
          have t3 : decide ((on l j : Int) < (fin l i : Int)) = false := decide_eq_false (by omega)
          have t3' : decide (on l j < fin l i) = false := decide_eq_false (by omega)
          have HE3 := Aside0.mk (HE2.out.trans (if_neg (fun h => h3 h.1)))
          clear HE2
          go_wp2_with fail
          go_roundw
          case rel => exact ⟨k, on l j, by go_num, by go_num, by omega, by omega, ⟨HE3.out.symm⟩, HS⟩
          case measure => simp [intOf]; omega
      · skip
        have t2 : decide ((j : Int) < (fin l i : Int)) = false := decide_eq_false (by omega)
        have t2' : decide (j < fin l i) = false := decide_eq_false (by omega)
        have HE2 := Aside0.mk (HE.out.trans (if_neg h2))
        clear HE
        go_wp2_with fail
        obtain rfl : o = none := HE2.out
        exact ⟨rfl, rfl, HS.out.bel⟩
  · rw [if_neg h1] at h
    subst h
    have h1' : one a = false := by simpa using h1
    clear h1
    have HS := Aside0.mk (Su.begin_ hW)
    have hn1 := hW.n1
    have hn2 := hW.n2
    have hi := begins_le hW.beg
    have hsz := hW.sl.ok.size
    clear hW
    obtain ⟨f0, f1, f2, f3, f4, f5, f6, _, _, _, _, _⟩ := HS.out.wk
    go_enter Try.func100, Try.ntmps100
    go_wp2_with fail
    refine (letter_no (HS.out.two (by first | exact Below.refl _ _ | exact below_drew (Below.refl _ _) | exact pw_below_drewN (Below.refl _ _) _)).wk h1').mono ?_
    rintro e w9 ⟨rfl, hd⟩
    have HT := Aside0.mk (HS.out.step (by first | exact Below.refl _ _ | exact below_drew (Below.refl _ _) | exact pw_below_drewN (Below.refl _ _) _) hd)
    clear hd f0 f1 f2 f3 f4 f5 f6 HS
    have HS := HT
    clear HT
    obtain ⟨f0, f1, f2, f3, f4, f5, f6, _, _, _, _, _⟩ := HS.out.wk
    go_wp2_with fail
    exact ⟨rfl, rfl, HS.out.bel⟩
end
end Go.Proofs.Ytiibjehnlphabaa

end

section
namespace Go.Proofs.Ytiibjehnlphabaa
open Go.RowKit Go.Proofs.YtiibjehnlphabaaW.PrintWords Go.Proofs.YtiibjehnlphabaaW.PrintMore Q
set_option linter.unusedVariables false
set_option linter.unusedSimpArgs false
section
variable {w : World} {g : Nat} {A : Option Addr} {c : Nat} {l : List Int} {i : Nat} {n : Nat} {op : Bool} {key : ByteArray} {A2 : Option Addr} {c2 : Nat} {a : List Int} {cn : Int}
set_option maxHeartbeats 1000000 in
set_option maxRecDepth 100000 in
theorem behind_calls (hW : Wk w g A c l i n op key A2 c2 a cn) (o : Option Nat) (h : behind l a n i = o) :
    Calls Try.prog 101 #[.pointer (some ⟨g, 0, none⟩)] w fun e w' => e = endI o ∧ Below w.heap.size w w' := by
  rw [behind_eq l a n (begins_le hW.beg)] at h
  have hf := start_le l i
  by_cases h1 : one a = true
  · rw [if_pos h1] at h
    have HO := Aside0.mk h
    have h1' := Aside0.mk h1
    clear h h1
    have HS := Aside0.mk (Su.begin_ hW)
    have hn1 := hW.n1
    have hn2 := hW.n2
    have hi := begins_le hW.beg
    have hsz := hW.sl.ok.size
    clear hW
    obtain ⟨f0, f1, f2, f3, f4, f5, f6, _, _, _, _, _⟩ := HS.out.wk
    go_enter Try.func101, Try.ntmps101
    go_wp2_with fail
    refine (letter_ok (HS.out.two (by first | exact Below.refl _ _ | exact below_drew (Below.refl _ _) | exact pw_below_drewN (Below.refl _ _) _)).wk h1'.out).mono ?_
    rintro e w1 ⟨rfl, hd⟩
    have HT := Aside0.mk (HS.out.step (by first | exact Below.refl _ _ | exact below_drew (Below.refl _ _) | exact pw_below_drewN (Below.refl _ _) _) hd)
    clear hd f0 f1 f2 f3 f4 f5 f6 HS
    have HS := HT
    clear HT
    obtain ⟨f0, f1, f2, f3, f4, f5, f6, _, _, _, _, _⟩ := HS.out.wk
    go_wp2_with fail
    refine region_tail 8 (by kernel_rfl) (by kernel_rfl) _ rfl ?_
    simp only [List.take_succ_cons, List.take_zero, List.drop_succ_cons, List.drop_zero]
    repeat still_step
    refine wpStill_nil ?_
    go_wp2_with fail
    refine (c_start (HS.out.two (by first | exact Below.refl _ _ | exact below_drew (Below.refl _ _) | exact pw_below_drewN (Below.refl _ _) _)).wk.sl hi).mono ?_
    rintro e w3 ⟨rfl, hd⟩
    have HT := Aside0.mk (HS.out.step (by first | exact Below.refl _ _ | exact below_drew (Below.refl _ _) | exact pw_below_drewN (Below.refl _ _) _) hd.below)
    clear hd f0 f1 f2 f3 f4 f5 f6 HS
    have HS := HT
    clear HT
    obtain ⟨f0, f1, f2, f3, f4, f5, f6, _, _, _, _, _⟩ := HS.out.wk
    go_wp2_with fail
    go_loopw [4, 5] (fun v4 v5 wr => ∃ (k j : Nat), v4 = .int .i64 k ∧ v5 = .int .i64 j ∧ k < n ∧ j ≤ l.length ∧ Aside0 (behindOn l a (start l i) (n - k) j = o) ∧ Aside0 (Su w wr (Wk wr g A c l i n op key A2 c2 a cn))) (fun _ v5 _ => (intOf v5).toNat)
    case atStart => exact ⟨0, i, rfl, rfl, by omega, hi, HO, HS⟩
    case round =>
      clear f0 f1 f2 f3 f4 f5 f6 HS HO
      obtain ⟨k, j, rfl, rfl, hk, hj, HO, HS⟩ := hrel
      obtain ⟨f0, f1, f2, f3, f4, f5, f6, _, _, _, _, _⟩ := HS.out.wk
      have HE := Aside0.mk (HO.out.symm.trans (behindOn_eq l a (n - k) hj))
      clear HO
      by_cases h2 : start l i < j
      · skip
        have t2 : decide ((start l i : Int) < (j : Int)) = true := decide_eq_true (by omega)
        have t2' : decide (start l i < j) = true := decide_eq_true (by omega)
        have hg := lastSz_pos (l := l) (i := j) (by omega) hj
        have HE2 := Aside0.mk (HE.out.trans (if_pos h2))
        clear HE
        go_wp2_with fail
        refine (c_last (HS.out.two (by first | exact Below.refl _ _ | exact below_drew (Below.refl _ _) | exact pw_below_drewN (Below.refl _ _) _)).wk.sl hj).mono ?_
        rintro e w4 ⟨rfl, hd⟩
        have HT := Aside0.mk (HS.out.step (by first | exact Below.refl _ _ | exact below_drew (Below.refl _ _) | exact pw_below_drewN (Below.refl _ _) _) hd)
        clear hd f0 f1 f2 f3 f4 f5 f6 HS t2 t2'
        have HS := HT
        clear HT
        obtain ⟨f0, f1, f2, f3, f4, f5, f6, _, _, _, _, _⟩ := HS.out.wk
        have e1 : (j : Int) - (lastSz l j : Int) = ((j - lastSz l j : Nat) : Int) := by omega
        go_wp2_with fail
        clear e1
        refine (is_calls (HS.out.two (by first | exact Below.refl _ _ | exact below_drew (Below.refl _ _) | exact pw_below_drewN (Below.refl _ _) _)).wk (j - lastSz l j) (by omega)).mono ?_
        rintro e w5 ⟨rfl, hd⟩
        have HT := Aside0.mk (HS.out.step (by first | exact Below.refl _ _ | exact below_drew (Below.refl _ _) | exact pw_below_drewN (Below.refl _ _) _) hd)
        clear hd f0 f1 f2 f3 f4 f5 f6 HS
        have HS := HT
        clear HT
        obtain ⟨f0, f1, f2, f3, f4, f5, f6, _, _, _, _, _⟩ := HS.out.wk
        by_cases h4 : isAt l a (j - lastSz l j) = true
        · have HE3 := Aside0.mk (HE2.out.trans (if_pos h4))
          clear HE2
          rw [h4]
          clear h4
          by_cases h5 : k + 1 = n
          · have te : (((k : Nat) : Int) + 1 == (n : Int)) = true := beq_iff_eq.2 (by omega)
            have HE4 := Aside0.mk (HE3.out.trans (if_pos (show n - k = 1 by omega)))
            clear h5
            go_wp2_with fail
            go_ret
            exact ⟨by rw [HE4.out]; rfl, HS.out.bel⟩
          · have te : (((k : Nat) : Int) + 1 == (n : Int)) = false := beq_eq_false_iff_ne.2 (by omega)
            have HE4 := Aside0.mk (HE3.out.trans (if_neg (show ¬ n - k = 1 by omega)))
            go_wp2_with fail
            go_roundw
            case rel => exact ⟨k + 1, j - lastSz l j, by go_num, by go_num, by omega, by omega, ⟨by rw [HE4.out, show n - (k + 1) = n - k - 1 by omega]⟩, HS⟩
            case measure => simp [intOf]; omega
        · have HE3 := Aside0.mk (HE2.out.trans (if_neg h4))
          clear HE2
          have h4' : isAt l a (j - lastSz l j) = false := by simpa using h4
          rw [h4']
          clear h4 h4'
          go_wp2_with fail
          go_roundw
          case rel => exact ⟨k, j - lastSz l j, by go_num, by go_num, by omega, by omega, ⟨HE3.out.symm⟩, HS⟩
          case measure => simp [intOf]; omega
      · skip
        have t2 : decide ((start l i : Int) < (j : Int)) = false := decide_eq_false (by omega)
        have t2' : decide (start l i < j) = false := decide_eq_false (by omega)
        have HE2 := Aside0.mk (HE.out.trans (if_neg h2))
        clear HE
        go_wp2_with fail
        obtain rfl : o = none := HE2.out
        exact ⟨rfl, rfl, HS.out.bel⟩
  · rw [if_neg h1] at h
    subst h
    have h1' : one a = false := by simpa using h1
    clear h1
    have HS := Aside0.mk (Su.begin_ hW)
    have hn1 := hW.n1
    have hn2 := hW.n2
    have hi := begins_le hW.beg
    have hsz := hW.sl.ok.size
    clear hW
    obtain ⟨f0, f1, f2, f3, f4, f5, f6, _, _, _, _, _⟩ := HS.out.wk
    go_enter Try.func101, Try.ntmps101
    go_wp2_with fail
    refine (letter_no (HS.out.two (by first | exact Below.refl _ _ | exact below_drew (Below.refl _ _) | exact pw_below_drewN (Below.refl _ _) _)).wk h1').mono ?_
    rintro e w2 ⟨rfl, hd⟩
    have HT := Aside0.mk (HS.out.step (by first | exact Below.refl _ _ | exact below_drew (Below.refl _ _) | exact pw_below_drewN (Below.refl _ _) _) hd)
    clear hd f0 f1 f2 f3 f4 f5 f6 HS
    have HS := HT
    clear HT
    obtain ⟨f0, f1, f2, f3, f4, f5, f6, _, _, _, _, _⟩ := HS.out.wk
    go_wp2_with fail
    exact ⟨rfl, rfl, HS.out.bel⟩

set_option maxHeartbeats 400000 in
set_option maxRecDepth 100000 in
theorem find_calls (hW : Wk w g A c l i n op key A2 c2 a cn) (o : Option Gl) (h : ((ahead l a n i).map incl) = o) :
    Calls Try.prog 69 #[.pointer (some ⟨g, 0, none⟩)] w fun e w' => e = endG o ∧ Below w.heap.size w w' := by
  have HO := Aside0.mk h
  clear h
  have HS := Aside0.mk (St.begin_ hW)
  have hn1 := hW.n1
  have hn2 := hW.n2
  have hi := begins_le hW.beg
  have hsz := hW.sl.ok.size
  clear hW
  obtain ⟨f0, f1, f2, f3, f4, f5, f6, _, _, _, _, _⟩ := HS.out.wk
  go_enter Try.func69, Try.ntmps69
  go_wp2_with fail
  cases hx : ahead l a n i with
  | none =>
    obtain rfl : none = o := by rw [← HO.out, hx]; rfl
    have hx' := Aside0.mk hx
    clear hx
    refine (ahead_calls (HS.out.two (by first | exact Below.refl _ _ | exact below_drew (Below.refl _ _) | exact pw_below_drewN (Below.refl _ _) _)).wk none hx'.out).mono ?_
    rintro e w6 ⟨rfl, hd⟩
    have HT := Aside0.mk (HS.out.step (by first | exact Below.refl _ _ | exact below_drew (Below.refl _ _) | exact pw_below_drewN (Below.refl _ _) _) hd)
    clear hd f0 f1 f2 f3 f4 f5 f6 HS
    have HS := HT
    clear HT
    obtain ⟨f0, f1, f2, f3, f4, f5, f6, _, _, _, _, _⟩ := HS.out.wk
    simp only [endI]
    go_wp2_with fail
    exact ⟨rfl, rfl, HS.out.bel⟩
  | some p =>
    obtain rfl : some (incl p) = o := by rw [← HO.out, hx]; rfl
    have hx' := Aside0.mk hx
    clear hx
    refine (ahead_calls (HS.out.two (by first | exact Below.refl _ _ | exact below_drew (Below.refl _ _) | exact pw_below_drewN (Below.refl _ _) _)).wk (some p) hx'.out).mono ?_
    rintro e w7 ⟨rfl, hd⟩
    have HT := Aside0.mk (HS.out.step (by first | exact Below.refl _ _ | exact below_drew (Below.refl _ _) | exact pw_below_drewN (Below.refl _ _) _) hd)
    clear hd f0 f1 f2 f3 f4 f5 f6 HS
    have HS := HT
    clear HT
    obtain ⟨f0, f1, f2, f3, f4, f5, f6, _, _, _, _, _⟩ := HS.out.wk
    simp only [endI]
    obtain ⟨r0, r1, r2, z⟩ := HS.out.res.cell
    have z0 := z 0
    have z1 := z 1
    have z2 := z 2
    clear z
    go_wp2_with fail
    exact goal_postG HS.out rfl rfl rfl

set_option maxHeartbeats 400000 in
set_option maxRecDepth 100000 in
theorem findBack_calls (hW : Wk w g A c l i n op key A2 c2 a cn) (o : Option Gl) (h : ((behind l a n i).map plain_) = o) :
    Calls Try.prog 71 #[.pointer (some ⟨g, 0, none⟩)] w fun e w' => e = endG o ∧ Below w.heap.size w w' := by
  have HO := Aside0.mk h
  clear h
  have HS := Aside0.mk (St.begin_ hW)
  have hn1 := hW.n1
  have hn2 := hW.n2
  have hi := begins_le hW.beg
  have hsz := hW.sl.ok.size
  clear hW
  obtain ⟨f0, f1, f2, f3, f4, f5, f6, _, _, _, _, _⟩ := HS.out.wk
  go_enter Try.func71, Try.ntmps71
  go_wp2_with fail
  cases hx : behind l a n i with
  | none =>
    obtain rfl : none = o := by rw [← HO.out, hx]; rfl
    have hx' := Aside0.mk hx
    clear hx
    refine (behind_calls (HS.out.two (by first | exact Below.refl _ _ | exact below_drew (Below.refl _ _) | exact pw_below_drewN (Below.refl _ _) _)).wk none hx'.out).mono ?_
    rintro e w8 ⟨rfl, hd⟩
    have HT := Aside0.mk (HS.out.step (by first | exact Below.refl _ _ | exact below_drew (Below.refl _ _) | exact pw_below_drewN (Below.refl _ _) _) hd)
    clear hd f0 f1 f2 f3 f4 f5 f6 HS
    have HS := HT
    clear HT
    obtain ⟨f0, f1, f2, f3, f4, f5, f6, _, _, _, _, _⟩ := HS.out.wk
    simp only [endI]
    go_wp2_with fail
    exact ⟨rfl, rfl, HS.out.bel⟩
  | some p =>
    obtain rfl : some (plain_ p) = o := by rw [← HO.out, hx]; rfl
    have hx' := Aside0.mk hx
    clear hx
    refine (behind_calls (HS.out.two (by first | exact Below.refl _ _ | exact below_drew (Below.refl _ _) | exact pw_below_drewN (Below.refl _ _) _)).wk (some p) hx'.out).mono ?_
    rintro e w9 ⟨rfl, hd⟩
    have HT := Aside0.mk (HS.out.step (by first | exact Below.refl _ _ | exact below_drew (Below.refl _ _) | exact pw_below_drewN (Below.refl _ _) _) hd)
    clear hd f0 f1 f2 f3 f4 f5 f6 HS
    have HS := HT
    clear HT
    obtain ⟨f0, f1, f2, f3, f4, f5, f6, _, _, _, _, _⟩ := HS.out.wk
    simp only [endI]
    obtain ⟨r0, r1, r2, z⟩ := HS.out.res.cell
    have z0 := z 0
    have z1 := z 1
    have z2 := z 2
    clear z
    go_wp2_with fail
    exact goal_postG HS.out rfl rfl rfl

set_option maxHeartbeats 400000 in
set_option maxRecDepth 100000 in
theorem till_calls (hW : Wk w g A c l i n op key A2 c2 a cn) (o : Option Gl) (hb : ∀ p, ahead l a n i = some p → p ≤ l.length) (h : ((ahead l a n i).map fun p => incl (p - lastSz l p)) = o) :
    Calls Try.prog 70 #[.pointer (some ⟨g, 0, none⟩)] w fun e w' => e = endG o ∧ Below w.heap.size w w' := by
  have HO := Aside0.mk h
  have HB := Aside0.mk hb
  clear h hb
  have HS := Aside0.mk (St.begin_ hW)
  have hn1 := hW.n1
  have hn2 := hW.n2
  have hi := begins_le hW.beg
  have hsz := hW.sl.ok.size
  clear hW
  obtain ⟨f0, f1, f2, f3, f4, f5, f6, _, _, _, _, _⟩ := HS.out.wk
  go_enter Try.func70, Try.ntmps70
  go_wp2_with fail
  cases hx : ahead l a n i with
  | none =>
    obtain rfl : none = o := by rw [← HO.out, hx]; rfl
    have hx' := Aside0.mk hx
    clear hx
    refine (ahead_calls (HS.out.two (by first | exact Below.refl _ _ | exact below_drew (Below.refl _ _) | exact pw_below_drewN (Below.refl _ _) _)).wk none hx'.out).mono ?_
    rintro e w10 ⟨rfl, hd⟩
    have HT := Aside0.mk (HS.out.step (by first | exact Below.refl _ _ | exact below_drew (Below.refl _ _) | exact pw_below_drewN (Below.refl _ _) _) hd)
    clear hd f0 f1 f2 f3 f4 f5 f6 HS
    have HS := HT
    clear HT
    obtain ⟨f0, f1, f2, f3, f4, f5, f6, _, _, _, _, _⟩ := HS.out.wk
    simp only [endI]
    go_wp2_with fail
    exact ⟨rfl, rfl, HS.out.bel⟩
  | some p =>
    have hp := HB.out p hx
    have hle := lastSz_le hp
    obtain rfl : some (incl (p - lastSz l p)) = o := by rw [← HO.out, hx]; rfl
    have hx' := Aside0.mk hx
    clear hx
    refine (ahead_calls (HS.out.two (by first | exact Below.refl _ _ | exact below_drew (Below.refl _ _) | exact pw_below_drewN (Below.refl _ _) _)).wk (some p) hx'.out).mono ?_
    rintro e w11 ⟨rfl, hd⟩
    have HT := Aside0.mk (HS.out.step (by first | exact Below.refl _ _ | exact below_drew (Below.refl _ _) | exact pw_below_drewN (Below.refl _ _) _) hd)
    clear hd f0 f1 f2 f3 f4 f5 f6 HS
    have HS := HT
    clear HT
    obtain ⟨f0, f1, f2, f3, f4, f5, f6, _, _, _, _, _⟩ := HS.out.wk
    simp only [endI]
    go_wp2_with fail
    refine (c_last (HS.out.two (by first | exact Below.refl _ _ | exact below_drew (Below.refl _ _) | exact pw_below_drewN (Below.refl _ _) _)).wk.sl hp).mono ?_
    rintro e w12 ⟨rfl, hd⟩
    have HT := Aside0.mk (HS.out.step (by first | exact Below.refl _ _ | exact below_drew (Below.refl _ _) | exact pw_below_drewN (Below.refl _ _) _) hd)
    clear hd f0 f1 f2 f3 f4 f5 f6 HS
    have HS := HT
    clear HT
    obtain ⟨f0, f1, f2, f3, f4, f5, f6, _, _, _, _, _⟩ := HS.out.wk
    have e1 : (p : Int) - (lastSz l p : Int) = ((p - lastSz l p : Nat) : Int) := by omega
    obtain ⟨r0, r1, r2, z⟩ := HS.out.res.cell
    have z0 := z 0
    have z1 := z 1
    have z2 := z 2
    clear z
    go_wp2_with fail
    clear e1
    exact goal_postG HS.out rfl rfl rfl

set_option maxHeartbeats 400000 in
set_option maxRecDepth 100000 in
theorem tillBack_yes (hW : Wk w g A c l i n op key A2 c2 a cn) (p : Nat) (hx : behind l a n i = some p) (hp : p ≤ l.length) :
    Calls Try.prog 72 #[.pointer (some ⟨g, 0, none⟩)] w fun e w' => e = endG (some (plain_ (on l p))) ∧ Below w.heap.size w w' := by
  have hx' := Aside0.mk hx
  clear hx
  have HW0 := Aside0.mk hW
  have hg := Aside0.mk hW.lt
  have HS := Aside0.mk (St.begin_ hW)
  have hn1 := hW.n1
  have hn2 := hW.n2
  have hi := begins_le hW.beg
  have hsz := hW.sl.ok.size
  clear hW
  obtain ⟨f0, f1, f2, f3, f4, f5, f6, _, _, _, _, _⟩ := HS.out.wk
  go_enter Try.func72, Try.ntmps72
  go_wp2_with fail
  clear f0 f1 f2 f3 f4 f5 f6
  go_region_held3 (fun w' => w'.cell? ⟨g, 0, none⟩ = some (.slice A l.length c)) (first | exact HS.out.wk.f0 | exact (HS.out.two (below_drew (Below.refl _ _))).wk.f0 | exact (Wk.laid HS.out hg.out HW0.out _ _ _).wk.f0)
    (first | (go_at_call 101; refine (behind_calls (HS.out.two (by first | exact Below.refl _ _ | exact below_drew (Below.refl _ _) | exact pw_below_drewN (Below.refl _ _) _)).wk (some p) hx'.out).mono ?_; rintro e w13 ⟨rfl, hd⟩; have HT := Aside0.mk (HS.out.step (by first | exact Below.refl _ _ | exact below_drew (Below.refl _ _) | exact pw_below_drewN (Below.refl _ _) _) hd); clear hd HS; have HS := HT; clear HT; simp only [endI]) | (go_at_call 48; refine (c_on (HS.out.two (by first | exact Below.refl _ _ | exact below_drew (Below.refl _ _) | exact pw_below_drewN (Below.refl _ _) _)).wk.sl hp).mono ?_; rintro e w14 ⟨rfl, hd⟩; have HT := Aside0.mk (HS.out.step (by first | exact Below.refl _ _ | exact below_drew (Below.refl _ _) | exact pw_below_drewN (Below.refl _ _) _) hd); clear hd HS; have HS := HT; clear HT; obtain ⟨r0, r1, r2, z⟩ := HS.out.res.cell; have z0 := z 0; have z1 := z 1; have z2 := z 2; clear z))
  go_wp2_with fail
  exact goal_postG HS.out rfl rfl rfl

set_option maxHeartbeats 400000 in
set_option maxRecDepth 100000 in
theorem none_calls (hW : Wk w g A c l i n op key A2 c2 a cn) :
    Calls Try.prog 76 #[.pointer (some ⟨g, 0, none⟩)] w fun e w' => e = endG none ∧ Below w.heap.size w w' := by
  have HS := Aside0.mk (St.begin_ hW)
  have hn1 := hW.n1
  have hn2 := hW.n2
  have hi := begins_le hW.beg
  have hsz := hW.sl.ok.size
  clear hW
  obtain ⟨f0, f1, f2, f3, f4, f5, f6, _, _, _, _, _⟩ := HS.out.wk
  go_enter Try.func76, Try.ntmps76
  go_wp2_with fail
  exact ⟨rfl, rfl, HS.out.bel⟩

set_option maxHeartbeats 400000 in
set_option maxRecDepth 100000 in
theorem other_calls (hW : Wk w g A c l i n op key A2 c2 a cn) (m : Nat) (hm : m ≤ l.length) (o : Option Gl) (h : (let p := if op = true then m else rest l m; if p = i then none else some (plain_ p)) = o) :
    Calls Try.prog 102 #[.pointer (some ⟨g, 0, none⟩), .int .i64 (m : Int)] w fun e w' => e = endG o ∧ Below w.heap.size w w' := by
  have HO := Aside0.mk h
  clear h
  cases op with
  | true =>
    have HS := Aside0.mk (St.begin_ hW)
    have hn1 := hW.n1
    have hn2 := hW.n2
    have hi := begins_le hW.beg
    have hsz := hW.sl.ok.size
    clear hW
    obtain ⟨f0, f1, f2, f3, f4, f5, f6, _, _, _, _, _⟩ := HS.out.wk
    go_enter Try.func102, Try.ntmps102
    by_cases he : m = i
    · obtain rfl : none = o := by rw [← HO.out]; simp [he]
      have te : (((m : Nat) : Int) == ((i : Nat) : Int)) = true := beq_iff_eq.2 (by omega)
      have te' : (((m : Nat) : Int) != ((i : Nat) : Int)) = false := by rw [bne, te]; rfl
      have ten : (m == i) = true := beq_iff_eq.2 (by omega)
      have ten' : (m != i) = false := by rw [bne, ten]; rfl
      clear he
      go_wp2_with (first | (go_at_call 92; refine (must_ok _).mono ?_; rintro e wm ⟨rfl, rfl⟩) | (go_at_call 92; refine (must_no _).mono ?_; rintro e wm ⟨rfl, rfl⟩))
      exact ⟨rfl, rfl, HS.out.bel⟩
    · obtain rfl : some (plain_ m) = o := by rw [← HO.out]; simp [he]
      have te : (((m : Nat) : Int) == ((i : Nat) : Int)) = false := beq_eq_false_iff_ne.2 (by omega)
      have te' : (((m : Nat) : Int) != ((i : Nat) : Int)) = true := by rw [bne, te]; rfl
      have ten : (m == i) = false := beq_eq_false_iff_ne.2 (by omega)
      have ten' : (m != i) = true := by rw [bne, ten]; rfl
      go_wp2_with fail
      generalize (w.alloc (Obj.cells #[Value.int IntKind.i64 0, Value.bool false, Value.bool false] 25)) = W1 at *
      obtain ⟨r0, r1, r2, z⟩ := HS.out.res.cell
      have z0 := z 0
      have z1 := z 1
      have z2 := z 2
      clear z
      refine (must_ok _).mono ?_
      rintro e wm ⟨rfl, rfl⟩
      go_wp2_with fail
      exact goal_postG HS.out rfl rfl rfl
  | false =>
    have hr := rest_le hm
    have HS := Aside0.mk (St.begin_ hW)
    have hn1 := hW.n1
    have hn2 := hW.n2
    have hi := begins_le hW.beg
    have hsz := hW.sl.ok.size
    clear hW
    obtain ⟨f0, f1, f2, f3, f4, f5, f6, _, _, _, _, _⟩ := HS.out.wk
    go_enter Try.func102, Try.ntmps102
    go_wp2_with fail
    refine (c_rest (HS.out.two (by first | exact Below.refl _ _ | exact below_drew (Below.refl _ _) | exact pw_below_drewN (Below.refl _ _) _)).wk.sl hm).mono ?_
    rintro e w15 ⟨rfl, hd⟩
    have HT := Aside0.mk (HS.out.step (by first | exact Below.refl _ _ | exact below_drew (Below.refl _ _) | exact pw_below_drewN (Below.refl _ _) _) hd)
    clear hd f0 f1 f2 f3 f4 f5 f6 HS
    have HS := HT
    clear HT
    obtain ⟨f0, f1, f2, f3, f4, f5, f6, _, _, _, _, _⟩ := HS.out.wk
    by_cases he : rest l m = i
    · obtain rfl : none = o := by rw [← HO.out]; simp [he]
      have te : (((rest l m : Nat) : Int) == ((i : Nat) : Int)) = true := beq_iff_eq.2 (by omega)
      have te' : (((rest l m : Nat) : Int) != ((i : Nat) : Int)) = false := by rw [bne, te]; rfl
      have ten : (rest l m == i) = true := beq_iff_eq.2 (by omega)
      have ten' : (rest l m != i) = false := by rw [bne, ten]; rfl
      clear he
      go_wp2_with (first | (go_at_call 92; refine (must_ok _).mono ?_; rintro e wm ⟨rfl, rfl⟩) | (go_at_call 92; refine (must_no _).mono ?_; rintro e wm ⟨rfl, rfl⟩))
      exact ⟨rfl, rfl, HS.out.bel⟩
    · obtain rfl : some (plain_ (rest l m)) = o := by rw [← HO.out]; simp [he]
      have te : (((rest l m : Nat) : Int) == ((i : Nat) : Int)) = false := beq_eq_false_iff_ne.2 (by omega)
      have te' : (((rest l m : Nat) : Int) != ((i : Nat) : Int)) = true := by rw [bne, te]; rfl
      have ten : (rest l m == i) = false := beq_eq_false_iff_ne.2 (by omega)
      have ten' : (rest l m != i) = true := by rw [bne, ten]; rfl
      obtain ⟨r0, r1, r2, z⟩ := HS.out.res.cell
      have z0 := z 0
      have z1 := z 1
      have z2 := z 2
      clear z
      go_wp2_with (first | (go_at_call 92; refine (must_ok _).mono ?_; rintro e wm ⟨rfl, rfl⟩) | (go_at_call 92; refine (must_no _).mono ?_; rintro e wm ⟨rfl, rfl⟩))
      exact goal_postG HS.out rfl rfl rfl

theorem emptyDown_more (l : List Int) : ∀ (f f' i : Nat), l.length - i ≤ f → l.length - i ≤ f' → emptyDown l f i = emptyDown l f' i
  | 0, 0, _, _, _ => rfl
  | 0, f' + 1, i, h, _ => by
    simp only [emptyDown]
    rw [if_neg (by omega)]
  | f + 1, 0, i, _, h => by
    simp only [emptyDown]
    rw [if_neg (by omega)]
  | f + 1, f' + 1, i, h, h' => by
    simp only [emptyDown]
    by_cases hc : i < l.length
    · have hf := fin_le (l := l) (i := i + 1) (by omega)
      rw [if_pos hc, if_pos hc, emptyDown_more l f f' _ (by omega) (by omega)]
    · rw [if_neg hc, if_neg hc]
/-- The next empty line down, from a line's end. -/
def downOn (l : List Int) (i : Nat) : Nat := emptyDown l (l.length - i) i
theorem downOn_eq (l : List Int) (i : Nat) : downOn l i = if i < l.length then (if fin l (i + 1) = i + 1 then i + 1 else downOn l (fin l (i + 1))) else i := by
  unfold downOn
  by_cases hc : i < l.length
  · obtain ⟨f, hf⟩ : ∃ f, l.length - i = f + 1 := ⟨l.length - i - 1, by omega⟩
    have hl := fin_le (l := l) (i := i + 1) (by omega)
    rw [hf, if_pos hc]
    simp only [emptyDown]
    rw [if_pos hc, emptyDown_more l f (l.length - fin l (i + 1)) _ (by omega) (by omega)]
  · rw [if_neg hc, show l.length - i = 0 by omega]
    rfl
theorem paraN_more (l : List Int) {n k j : Nat} (hk : k < n) (hj : j < l.length) : paraN l (n - k) j = paraN l (n - (k + 1)) (downOn l (fin l j)) := by
  obtain ⟨m, hm⟩ : ∃ m, n - k = m + 1 := ⟨n - k - 1, by omega⟩
  have hf := fin_le (l := l) (i := j) (by omega)
  rw [hm, show n - (k + 1) = m by omega]
  simp only [paraN, if_pos hj]
  rw [emptyDown_more l l.length (l.length - fin l j) _ (by omega) (by omega)]
  rfl
theorem paraN_end (l : List Int) {m j : Nat} (h : m = 0 ∨ ¬ j < l.length) : paraN l m j = j := by
  cases m with
  | zero => rfl
  | succ m => simp only [paraN]; rw [if_neg (by omega)]
theorem emptyUp_more (l : List Int) : ∀ (f f' i : Nat), i ≤ f → i ≤ f' → emptyUp l f i = emptyUp l f' i
  | 0, 0, _, _, _ => rfl
  | 0, f' + 1, i, h, _ => by
    simp only [emptyUp]
    rw [if_neg (by omega)]
  | f + 1, 0, i, _, h => by
    simp only [emptyUp]
    rw [if_neg (by omega)]
  | f + 1, f' + 1, i, h, h' => by
    simp only [emptyUp]
    by_cases hc : 0 < i
    · have hs := start_le l (i - 1)
      rw [if_pos hc, if_pos hc, emptyUp_more l f f' _ (by omega) (by omega)]
    · rw [if_neg hc, if_neg hc]
def upOn (l : List Int) (i : Nat) : Nat := emptyUp l i i
theorem upOn_eq (l : List Int) (i : Nat) : upOn l i = if 0 < i then (if fin l (start l (i - 1)) = start l (i - 1) then start l (i - 1) else upOn l (start l (i - 1))) else i := by
  unfold upOn
  by_cases hc : 0 < i
  · obtain ⟨f, rfl⟩ : ∃ f, i = f + 1 := ⟨i - 1, by omega⟩
    have hs := start_le l (f + 1 - 1)
    rw [if_pos hc]
    simp only [emptyUp]
    rw [if_pos hc, emptyUp_more l f (start l (f + 1 - 1)) _ (by omega) (by omega)]
  · rw [if_neg hc, show i = 0 by omega]
    rfl
theorem paraBackN_more (l : List Int) {n k j : Nat} (hk : k < n) (hj : 0 < j) (hl : j ≤ l.length) : paraBackN l (n - k) j = paraBackN l (n - (k + 1)) (upOn l (start l j)) := by
  obtain ⟨m, hm⟩ : ∃ m, n - k = m + 1 := ⟨n - k - 1, by omega⟩
  have hs := start_le l j
  rw [hm, show n - (k + 1) = m by omega]
  simp only [paraBackN, if_pos hj]
  rw [emptyUp_more l l.length (start l j) _ (by omega) (by omega)]
  rfl
theorem paraBackN_end (l : List Int) {m j : Nat} (h : m = 0 ∨ ¬ 0 < j) : paraBackN l m j = j := by
  cases m with
  | zero => rfl
  | succ m => simp only [paraBackN]; rw [if_neg (by omega)]

set_option maxHeartbeats 1000000 in
set_option maxRecDepth 100000 in
theorem paragraph_calls (hW : Wk w g A c l i n op key A2 c2 a cn) (o : Option Gl) (h : (let p := if op = true then paraN l n i else rest l (paraN l n i); if p = i then none else some (plain_ p)) = o) :
    Calls Try.prog 73 #[.pointer (some ⟨g, 0, none⟩)] w fun e w' => e = endG o ∧ Below w.heap.size w w' := by
  have HO := Aside0.mk h
  clear h
  have HS := Aside0.mk (St.begin_ hW)
  have hn1 := hW.n1
  have hn2 := hW.n2
  have hi := begins_le hW.beg
  have hsz := hW.sl.ok.size
  clear hW
  obtain ⟨f0, f1, f2, f3, f4, f5, f6, _, _, _, _, _⟩ := HS.out.wk
  go_enter Try.func73, Try.ntmps73
  go_wp2_with fail
  go_loopw [3, 4] (fun v3 v4 wr => ∃ (k j : Nat), v4 = .int .i64 k ∧ v3 = .int .i64 j ∧ k ≤ n ∧ j ≤ l.length ∧ Aside0 (paraN l (n - k) j = paraN l n i) ∧ Aside0 (St w wr w.heap.size (Wk wr g A c l i n op key A2 c2 a cn))) (fun _ v4 _ => n - (intOf v4).toNat)
  case atStart => exact ⟨0, i, rfl, rfl, by omega, hi, ⟨rfl⟩, HS⟩
  case round =>
    clear f0 f1 f2 f3 f4 f5 f6 HS
    obtain ⟨k, j, rfl, rfl, hk, hj, HL, HS⟩ := hrel
    obtain ⟨f0, f1, f2, f3, f4, f5, f6, _, _, _, _, _⟩ := HS.out.wk
    by_cases h1 : k < n
    · skip
      have t1 : decide ((k : Int) < (n : Int)) = true := decide_eq_true (by omega)
      have t1' : decide (k < n) = true := decide_eq_true (by omega)
      by_cases h2 : j < l.length
      · skip
        have t2 : decide ((j : Int) < (l.length : Int)) = true := decide_eq_true (by omega)
        have t2' : decide (j < l.length) = true := decide_eq_true (by omega)
        have hf := fin_le hj
        go_wp2_with fail
        refine (c_end (HS.out.two (by first | exact Below.refl _ _ | exact below_drew (Below.refl _ _) | exact pw_below_drewN (Below.refl _ _) _)).wk.sl hj).mono ?_
        rintro e w16 ⟨rfl, hd⟩
        have HT := Aside0.mk (HS.out.step (by first | exact Below.refl _ _ | exact below_drew (Below.refl _ _) | exact pw_below_drewN (Below.refl _ _) _) hd.below)
        clear hd f0 f1 f2 f3 f4 f5 f6 HS t1 t1' t2 t2'
        have HS := HT
        clear HT
        obtain ⟨f0, f1, f2, f3, f4, f5, f6, _, _, _, _, _⟩ := HS.out.wk
        go_wp2_with fail
        obtain ⟨wo, rfl⟩ : ∃ wo : World, wo = wr := ⟨_, rfl⟩
        go_loopw [3] (fun v3 wr => ∃ (q : Nat), v3 = .int .i64 q ∧ q ≤ l.length ∧ Aside0 (downOn l q = downOn l (fin l j)) ∧ Aside0 (St w wr w.heap.size (Wk wr g A c l i n op key A2 c2 a cn))) (fun v3 _ => l.length - (intOf v3).toNat)
        case atStart => exact ⟨fin l j, rfl, hf.2, ⟨rfl⟩, HS⟩
        case round =>
          clear f0 f1 f2 f3 f4 f5 f6 HS
          obtain ⟨q, rfl, hq, HQ, HS⟩ := hrel
          obtain ⟨f0, f1, f2, f3, f4, f5, f6, _, _, _, _, _⟩ := HS.out.wk
          have HE := Aside0.mk (HQ.out.symm.trans (downOn_eq l q))
          clear HQ
          by_cases h3 : q < l.length
          · skip
            have t3 : decide ((q : Int) < (l.length : Int)) = true := decide_eq_true (by omega)
            have t3' : decide (q < l.length) = true := decide_eq_true (by omega)
            have HE2 := Aside0.mk (HE.out.trans (if_pos h3))
            have hf2 := fin_le (l := l) (i := q + 1) (by omega)
            clear HE
            go_wp2_with fail
            have e1 : (q : Int) + 1 = ((q + 1 : Nat) : Int) := by omega
            rw [e1]
            clear e1
            refine (c_end (HS.out.two (by first | exact Below.refl _ _ | exact below_drew (Below.refl _ _) | exact pw_below_drewN (Below.refl _ _) _)).wk.sl (show q + 1 ≤ l.length by omega)).mono ?_
            rintro e w17 ⟨rfl, hd⟩
            have HT := Aside0.mk (HS.out.step (by first | exact Below.refl _ _ | exact below_drew (Below.refl _ _) | exact pw_below_drewN (Below.refl _ _) _) hd.below)
            clear hd f0 f1 f2 f3 f4 f5 f6 HS t3 t3'
            have HS := HT
            clear HT
            obtain ⟨f0, f1, f2, f3, f4, f5, f6, _, _, _, _, _⟩ := HS.out.wk
            by_cases h4 : fin l (q + 1) = q + 1
            · have te : ((fin l (q + 1) : Int) == (q : Int) + 1) = true := beq_iff_eq.2 (by omega)
              have HE3 := Aside0.mk (HE2.out.trans (if_pos h4))
              clear h4
              go_wp2_with fail
              go_roundw
              case rel => exact ⟨k + 1, q + 1, by go_num, by go_num, by omega, by omega, ⟨by rw [← HL.out, paraN_more l h1 h2, HE3.out]⟩, HS⟩
              case measure => simp [intOf]; omega
            · have te : ((fin l (q + 1) : Int) == (q : Int) + 1) = false := beq_eq_false_iff_ne.2 (by omega)
              have HE3 := Aside0.mk (HE2.out.trans (if_neg h4))
              go_wp2_with fail
              have e1 : (q : Int) + 1 = ((q + 1 : Nat) : Int) := by omega
              rw [e1]
              clear e1
              refine (c_end (HS.out.two (by first | exact Below.refl _ _ | exact below_drew (Below.refl _ _) | exact pw_below_drewN (Below.refl _ _) _)).wk.sl (show q + 1 ≤ l.length by omega)).mono ?_
              rintro e w18 ⟨rfl, hd⟩
              have HT := Aside0.mk (HS.out.step (by first | exact Below.refl _ _ | exact below_drew (Below.refl _ _) | exact pw_below_drewN (Below.refl _ _) _) hd.below)
              clear hd f0 f1 f2 f3 f4 f5 f6 HS
              have HS := HT
              clear HT
              obtain ⟨f0, f1, f2, f3, f4, f5, f6, _, _, _, _, _⟩ := HS.out.wk
              go_wp2_with fail
              go_roundw
              case rel => exact ⟨fin l (q + 1), by go_num, by omega, ⟨HE3.out.symm⟩, HS⟩
              case measure => simp [intOf]; omega
          · skip
            have t3 : decide ((q : Int) < (l.length : Int)) = false := decide_eq_false (by omega)
            have t3' : decide (q < l.length) = false := decide_eq_false (by omega)
            have HE2 := Aside0.mk (HE.out.trans (if_neg h3))
            clear HE
            go_wp2_with fail
            go_roundw
            case rel => exact ⟨k + 1, q, by go_num, by go_num, by omega, by omega, ⟨by rw [← HL.out, paraN_more l h1 h2, HE2.out]⟩, HS⟩
            case measure => simp [intOf]; omega
      · skip
        have t2 : decide ((j : Int) < (l.length : Int)) = false := decide_eq_false (by omega)
        have t2' : decide (j < l.length) = false := decide_eq_false (by omega)
        go_wp2_with fail
        refine (other_calls (HS.out.two (by first | exact Below.refl _ _ | exact below_drew (Below.refl _ _) | exact pw_below_drewN (Below.refl _ _) _)).wk j hj o (by rw [← HO.out, ← HL.out, paraN_end l (by omega)])).mono ?_
        rintro e w19 ⟨rfl, hd⟩
        have HT := Aside0.mk (HS.out.step (by first | exact Below.refl _ _ | exact below_drew (Below.refl _ _) | exact pw_below_drewN (Below.refl _ _) _) hd)
        clear hd f0 f1 f2 f3 f4 f5 f6 HS
        have HS := HT
        clear HT
        obtain ⟨f0, f1, f2, f3, f4, f5, f6, _, _, _, _, _⟩ := HS.out.wk
        cases o with
        | none =>
          simp only [endG]
          go_wp2_with fail
          exact ⟨rfl, rfl, HS.out.bel⟩
        | some p =>
          obtain ⟨x, y, z⟩ := p
          simp only [endG, goalV]
          obtain ⟨r0, r1, r2, zz⟩ := HS.out.res.cell
          have z0 := zz 0
          have z1 := zz 1
          have z2 := zz 2
          clear zz
          go_wp2_with fail
          exact goal_postG HS.out rfl rfl rfl
    · skip
      have t1 : decide ((k : Int) < (n : Int)) = false := decide_eq_false (by omega)
      have t1' : decide (k < n) = false := decide_eq_false (by omega)
      go_wp2_with fail
      refine (other_calls (HS.out.two (by first | exact Below.refl _ _ | exact below_drew (Below.refl _ _) | exact pw_below_drewN (Below.refl _ _) _)).wk j hj o (by rw [← HO.out, ← HL.out, paraN_end l (by omega)])).mono ?_
      rintro e w19 ⟨rfl, hd⟩
      have HT := Aside0.mk (HS.out.step (by first | exact Below.refl _ _ | exact below_drew (Below.refl _ _) | exact pw_below_drewN (Below.refl _ _) _) hd)
      clear hd f0 f1 f2 f3 f4 f5 f6 HS
      have HS := HT
      clear HT
      obtain ⟨f0, f1, f2, f3, f4, f5, f6, _, _, _, _, _⟩ := HS.out.wk
      cases o with
      | none =>
        simp only [endG]
        go_wp2_with fail
        exact ⟨rfl, rfl, HS.out.bel⟩
      | some p =>
        obtain ⟨x, y, z⟩ := p
        simp only [endG, goalV]
        obtain ⟨r0, r1, r2, zz⟩ := HS.out.res.cell
        have z0 := zz 0
        have z1 := zz 1
        have z2 := zz 2
        clear zz
        go_wp2_with fail
        exact goal_postG HS.out rfl rfl rfl
end
end Go.Proofs.Ytiibjehnlphabaa

end

section
namespace Go.Proofs.Ytiibjehnlphabaa
open Go.RowKit Go.Proofs.YtiibjehnlphabaaW.PrintWords Go.Proofs.YtiibjehnlphabaaW.PrintMore Q
set_option linter.unusedVariables false
set_option linter.unusedSimpArgs false
section
variable {w : World} {g : Nat} {A : Option Addr} {c : Nat} {l : List Int} {i : Nat} {n : Nat} {op : Bool} {key : ByteArray} {A2 : Option Addr} {c2 : Nat} {a : List Int} {cn : Int}
set_option maxHeartbeats 1000000 in
set_option maxRecDepth 100000 in
theorem paragraphBack_calls (hW : Wk w g A c l i n op key A2 c2 a cn) (o : Option Gl) (h : (if paraBackN l n i = i then none else some (plain_ (paraBackN l n i))) = o) :
    Calls Try.prog 74 #[.pointer (some ⟨g, 0, none⟩)] w fun e w' => e = endG o ∧ Below w.heap.size w w' := by
  have HO := Aside0.mk h
  clear h
  have HS := Aside0.mk (St.begin_ hW)
  have hn1 := hW.n1
  have hn2 := hW.n2
  have hi := begins_le hW.beg
  have hsz := hW.sl.ok.size
  clear hW
  obtain ⟨f0, f1, f2, f3, f4, f5, f6, _, _, _, _, _⟩ := HS.out.wk
  go_enter Try.func74, Try.ntmps74
  go_wp2_with fail
  go_loopw [3, 4] (fun v3 v4 wr => ∃ (k j : Nat), v4 = .int .i64 k ∧ v3 = .int .i64 j ∧ k ≤ n ∧ j ≤ l.length ∧ Aside0 (paraBackN l (n - k) j = paraBackN l n i) ∧ Aside0 (St w wr w.heap.size (Wk wr g A c l i n op key A2 c2 a cn))) (fun _ v4 _ => n - (intOf v4).toNat)
  case atStart => exact ⟨0, i, rfl, rfl, by omega, hi, ⟨rfl⟩, HS⟩
  case round =>
    clear f0 f1 f2 f3 f4 f5 f6 HS
    obtain ⟨k, j, rfl, rfl, hk, hj, HL, HS⟩ := hrel
    obtain ⟨f0, f1, f2, f3, f4, f5, f6, _, _, _, _, _⟩ := HS.out.wk
    by_cases h1 : k < n
    · skip
      have t1 : decide ((k : Int) < (n : Int)) = true := decide_eq_true (by omega)
      have t1' : decide (k < n) = true := decide_eq_true (by omega)
      by_cases h2 : 0 < j
      · have t2 : decide ((0 : Int) < (j : Int)) = true := decide_eq_true (by omega)
        have t2' : decide (0 < j) = true := decide_eq_true h2
        have hf := start_le l j
        go_wp2_with fail
        refine (c_start (HS.out.two (by first | exact Below.refl _ _ | exact below_drew (Below.refl _ _) | exact pw_below_drewN (Below.refl _ _) _)).wk.sl hj).mono ?_
        rintro e w1 ⟨rfl, hd⟩
        have HT := Aside0.mk (HS.out.step (by first | exact Below.refl _ _ | exact below_drew (Below.refl _ _) | exact pw_below_drewN (Below.refl _ _) _) hd.below)
        clear hd f0 f1 f2 f3 f4 f5 f6 HS t1 t1' t2 t2'
        have HS := HT
        clear HT
        obtain ⟨f0, f1, f2, f3, f4, f5, f6, _, _, _, _, _⟩ := HS.out.wk
        go_wp2_with fail
        obtain ⟨wo, rfl⟩ : ∃ wo : World, wo = wr := ⟨_, rfl⟩
        go_loopw [3] (fun v3 wr => ∃ (q : Nat), v3 = .int .i64 q ∧ q ≤ l.length ∧ Aside0 (upOn l q = upOn l (start l j)) ∧ Aside0 (St w wr w.heap.size (Wk wr g A c l i n op key A2 c2 a cn))) (fun v3 _ => (intOf v3).toNat)
        case atStart => exact ⟨start l j, rfl, by omega, ⟨rfl⟩, HS⟩
        case round =>
          clear f0 f1 f2 f3 f4 f5 f6 HS
          obtain ⟨q, rfl, hq, HQ, HS⟩ := hrel
          obtain ⟨f0, f1, f2, f3, f4, f5, f6, _, _, _, _, _⟩ := HS.out.wk
          have HE := Aside0.mk (HQ.out.symm.trans (upOn_eq l q))
          clear HQ
          by_cases h3 : 0 < q
          · have t3 : decide ((0 : Int) < (q : Int)) = true := decide_eq_true (by omega)
            have t3' : decide (0 < q) = true := decide_eq_true h3
            have HE2 := Aside0.mk (HE.out.trans (if_pos h3))
            have hs2 := start_le l (q - 1)
            have hf2 := fin_le (l := l) (i := start l (q - 1)) (by omega)
            clear HE
            go_wp2_with fail
            have e1 : (q : Int) - 1 = ((q - 1 : Nat) : Int) := by omega
            rw [e1]
            clear e1
            refine (c_start (HS.out.two (by first | exact Below.refl _ _ | exact below_drew (Below.refl _ _) | exact pw_below_drewN (Below.refl _ _) _)).wk.sl (show q - 1 ≤ l.length by omega)).mono ?_
            rintro e w2 ⟨rfl, hd⟩
            have HT := Aside0.mk (HS.out.step (by first | exact Below.refl _ _ | exact below_drew (Below.refl _ _) | exact pw_below_drewN (Below.refl _ _) _) hd.below)
            clear hd f0 f1 f2 f3 f4 f5 f6 HS t3 t3'
            have HS := HT
            clear HT
            obtain ⟨f0, f1, f2, f3, f4, f5, f6, _, _, _, _, _⟩ := HS.out.wk
            go_wp2_with fail
            refine (c_end (HS.out.two (by first | exact Below.refl _ _ | exact below_drew (Below.refl _ _) | exact pw_below_drewN (Below.refl _ _) _)).wk.sl (show start l (q - 1) ≤ l.length by omega)).mono ?_
            rintro e w3 ⟨rfl, hd⟩
            have HT := Aside0.mk (HS.out.step (by first | exact Below.refl _ _ | exact below_drew (Below.refl _ _) | exact pw_below_drewN (Below.refl _ _) _) hd.below)
            clear hd f0 f1 f2 f3 f4 f5 f6 HS
            have HS := HT
            clear HT
            obtain ⟨f0, f1, f2, f3, f4, f5, f6, _, _, _, _, _⟩ := HS.out.wk
            by_cases h4 : fin l (start l (q - 1)) = start l (q - 1)
            · skip
              have te : (((fin l (start l (q - 1)) : Nat) : Int) == ((start l (q - 1) : Nat) : Int)) = true := beq_iff_eq.2 (by omega)
              have te' : (((fin l (start l (q - 1)) : Nat) : Int) != ((start l (q - 1) : Nat) : Int)) = false := by rw [bne, te]; rfl
              have ten : (fin l (start l (q - 1)) == start l (q - 1)) = true := beq_iff_eq.2 (by omega)
              have ten' : (fin l (start l (q - 1)) != start l (q - 1)) = false := by rw [bne, ten]; rfl
              have HE3 := Aside0.mk (HE2.out.trans (if_pos h4))
              clear h4
              go_wp2_with fail
              go_roundw
              case rel => exact ⟨k + 1, start l (q - 1), by go_num, by go_num, by omega, by omega, ⟨by rw [← HL.out, paraBackN_more l h1 h2 hj, HE3.out]⟩, HS⟩
              case measure => simp [intOf]; omega
            · skip
              have te : (((fin l (start l (q - 1)) : Nat) : Int) == ((start l (q - 1) : Nat) : Int)) = false := beq_eq_false_iff_ne.2 (by omega)
              have te' : (((fin l (start l (q - 1)) : Nat) : Int) != ((start l (q - 1) : Nat) : Int)) = true := by rw [bne, te]; rfl
              have ten : (fin l (start l (q - 1)) == start l (q - 1)) = false := beq_eq_false_iff_ne.2 (by omega)
              have ten' : (fin l (start l (q - 1)) != start l (q - 1)) = true := by rw [bne, ten]; rfl
              have HE3 := Aside0.mk (HE2.out.trans (if_neg h4))
              go_wp2_with fail
              go_roundw
              case rel => exact ⟨start l (q - 1), by go_num, by omega, ⟨HE3.out.symm⟩, HS⟩
              case measure => simp [intOf]; omega
          · have t3 : decide ((0 : Int) < (q : Int)) = false := decide_eq_false (by omega)
            have t3' : decide (0 < q) = false := decide_eq_false h3
            have HE2 := Aside0.mk (HE.out.trans (if_neg h3))
            clear HE
            go_wp2_with fail
            go_roundw
            case rel => exact ⟨k + 1, q, by go_num, by go_num, by omega, by omega, ⟨by rw [← HL.out, paraBackN_more l h1 h2 hj, HE2.out]⟩, HS⟩
            case measure => simp [intOf]; omega
      · have t2 : decide ((0 : Int) < (j : Int)) = false := decide_eq_false (by omega)
        have t2' : decide (0 < j) = false := decide_eq_false h2
        by_cases he : j = i
        · obtain rfl : none = o := by rw [← HO.out, ← HL.out, paraBackN_end l (.inr h2), if_pos he]
          have te : (((j : Nat) : Int) == ((i : Nat) : Int)) = true := beq_iff_eq.2 (by omega)
          have te' : (((j : Nat) : Int) != ((i : Nat) : Int)) = false := by rw [bne, te]; rfl
          have ten : (j == i) = true := beq_iff_eq.2 (by omega)
          have ten' : (j != i) = false := by rw [bne, ten]; rfl
          clear he
          go_wp2_with (first | (go_at_call 92; refine (must_ok _).mono ?_; rintro e wm ⟨rfl, rfl⟩) | (go_at_call 92; refine (must_no _).mono ?_; rintro e wm ⟨rfl, rfl⟩))
          exact ⟨rfl, rfl, HS.out.bel⟩
        · obtain rfl : some (plain_ j) = o := by rw [← HO.out, ← HL.out, paraBackN_end l (.inr h2), if_neg he]
          have te : (((j : Nat) : Int) == ((i : Nat) : Int)) = false := beq_eq_false_iff_ne.2 (by omega)
          have te' : (((j : Nat) : Int) != ((i : Nat) : Int)) = true := by rw [bne, te]; rfl
          have ten : (j == i) = false := beq_eq_false_iff_ne.2 (by omega)
          have ten' : (j != i) = true := by rw [bne, ten]; rfl
          obtain ⟨r0, r1, r2, z⟩ := HS.out.res.cell
          have z0 := z 0
          have z1 := z 1
          have z2 := z 2
          clear z
          go_wp2_with (first | (go_at_call 92; refine (must_ok _).mono ?_; rintro e wm ⟨rfl, rfl⟩) | (go_at_call 92; refine (must_no _).mono ?_; rintro e wm ⟨rfl, rfl⟩))
          exact goal_postG HS.out rfl rfl rfl
    · skip
      have t1 : decide ((k : Int) < (n : Int)) = false := decide_eq_false (by omega)
      have t1' : decide (k < n) = false := decide_eq_false (by omega)
      by_cases he : j = i
      · obtain rfl : none = o := by rw [← HO.out, ← HL.out, paraBackN_end l (.inl (by omega)), if_pos he]
        have te : (((j : Nat) : Int) == ((i : Nat) : Int)) = true := beq_iff_eq.2 (by omega)
        have te' : (((j : Nat) : Int) != ((i : Nat) : Int)) = false := by rw [bne, te]; rfl
        have ten : (j == i) = true := beq_iff_eq.2 (by omega)
        have ten' : (j != i) = false := by rw [bne, ten]; rfl
        clear he
        go_wp2_with (first | (go_at_call 92; refine (must_ok _).mono ?_; rintro e wm ⟨rfl, rfl⟩) | (go_at_call 92; refine (must_no _).mono ?_; rintro e wm ⟨rfl, rfl⟩))
        exact ⟨rfl, rfl, HS.out.bel⟩
      · obtain rfl : some (plain_ j) = o := by rw [← HO.out, ← HL.out, paraBackN_end l (.inl (by omega)), if_neg he]
        have te : (((j : Nat) : Int) == ((i : Nat) : Int)) = false := beq_eq_false_iff_ne.2 (by omega)
        have te' : (((j : Nat) : Int) != ((i : Nat) : Int)) = true := by rw [bne, te]; rfl
        have ten : (j == i) = false := beq_eq_false_iff_ne.2 (by omega)
        have ten' : (j != i) = true := by rw [bne, ten]; rfl
        obtain ⟨r0, r1, r2, z⟩ := HS.out.res.cell
        have z0 := z 0
        have z1 := z 1
        have z2 := z 2
        clear z
        go_wp2_with (first | (go_at_call 92; refine (must_ok _).mono ?_; rintro e wm ⟨rfl, rfl⟩) | (go_at_call 92; refine (must_no _).mono ?_; rintro e wm ⟨rfl, rfl⟩))
        exact goal_postG HS.out rfl rfl rfl

theorem brackets_calls : Calls Try.prog 103 #[] w fun e w' => e = .returned (.tuple #[.string ⟨#[40, 91, 123]⟩, .string ⟨#[41, 93, 125]⟩]) ∧ w = w' := by
  go_enter Try.func103, Try.ntmps103
  go_wp2
  go_ret2
  exact ⟨rfl, rfl⟩
end
end Go.Proofs.Ytiibjehnlphabaa

end
