/- The row of law MoveBack of chapter 23 holds, for every input that the row names (part 0). Conditions: none. -/
import Derived.WalkKit
import Derived.Deep.QuietTactic
import Derived.BigQuiet
import Derived.Deep.RegionHeld3
import Derived.Test.YtiibjehnlphabaaRows
import Derived.ProofKit
import Derived.OpenShut
import Derived.ShutString
import Derived.ChangeOld
import Derived.Below
import Derived.SizedLaws
import Derived.Test.YtiibjehnlphabaaWSized
import Derived.Test.YtiibjehnlphabaaMB8
section
namespace Go.Proofs.Ytiibjehnlphabaa
open Go.RowKit Go.Proofs.YtiibjehnlphabaaW.PrintWords Go.Proofs.YtiibjehnlphabaaW.PrintMore Q
set_option linter.unusedVariables false
set_option linter.unusedSimpArgs false
section
variable {w : World} {A : Option Addr} {c : Nat} {l : List Int}
set_option maxRecDepth 100000 in
set_option maxHeartbeats 4000000 in
theorem lawBack_out (hS : Sl w A c l) (at_ : Int) (n : Int) (h : 1000 < l.length ∨ n < 1 ∨ 1000 < n) :
    Calls Try.prog 7 #[.slice A l.length c, .int .i64 at_, .int .i64 n] w fun e w' => e = .returned (.bool true) ∧ Below w.heap.size w w' := by
  have hsz := hS.ok.size
  have done : ∀ w1, Below w.heap.size w w1 → Below w.heap.size w w1 := fun _ h => h
  clear hS
  by_cases hl : 1000 < l.length
  · have t1 : decide ((1000 : Int) < (l.length : Int)) = true := decide_eq_true (by omega)
    have t1' : decide (1000 < l.length) = true := decide_eq_true (by omega)
    go_enter Try.func7, Try.ntmps7
    go_wp2_with fail
    refine (awake_calls w).mono ?_
    rintro e w1 ⟨rfl, hb⟩
    have HB := Aside0.mk hb
    clear hb
    go_wp2_with fail
    go_ret
    exact ⟨rfl, HB.out⟩
  · have t1 : decide ((1000 : Int) < (l.length : Int)) = false := decide_eq_false (by omega)
    have t1' : decide (1000 < l.length) = false := decide_eq_false (by omega)
    by_cases h2 : n < 1
    · have t2 : decide (n < 1) = true := decide_eq_true h2
      go_enter Try.func7, Try.ntmps7
      go_wp2_with fail
      refine (awake_calls w).mono ?_
      rintro e w1 ⟨rfl, hb⟩
      have HB := Aside0.mk hb
      clear hb
      go_wp2_with fail
      go_ret
      exact ⟨rfl, HB.out⟩
    · have t2 : decide (n < 1) = false := decide_eq_false h2
      have t3 : decide (1000 < n) = true := decide_eq_true (by omega)
      go_enter Try.func7, Try.ntmps7
      go_wp2_with fail
      refine (awake_calls w).mono ?_
      rintro e w1 ⟨rfl, hb⟩
      have HB := Aside0.mk hb
      clear hb
      go_wp2_with fail
      go_ret
      exact ⟨rfl, HB.out⟩
set_option maxRecDepth 100000 in
set_option maxHeartbeats 8000000 in
theorem lawBack_in (hS : Sl w A c l) (at_ : Int) (n : Nat) (hl : ¬ 1000 < l.length) (h1 : 1 ≤ n) (h2 : n ≤ 1000) :
    Calls Try.prog 7 #[.slice A l.length c, .int .i64 at_, .int .i64 (n : Int)] w fun e w' => e = .returned (.bool true) ∧ Below w.heap.size w w' := by
  have HS0 := Aside0.mk hS
  have HS := Aside0.mk (Ls.begin_ hS)
  have hsz := hS.ok.size
  clear hS
  have t1 : decide ((1000 : Int) < (l.length : Int)) = false := decide_eq_false (by omega)
  have t1' : decide (1000 < l.length) = false := decide_eq_false (by omega)
  go_enter Try.func7, Try.ntmps7
  go_wp2_with fail
  refine (awake_calls w).mono ?_
  rintro e w1 ⟨rfl, hb⟩
  have HT := Aside0.mk (HS.out.two hb)
  clear hb HS
  have HS := HT
  clear HT
  go_wp2_with fail
  refine (c_Rest HS.out.sl at_).mono ?_
  rintro e w2 ⟨rfl, hb⟩
  have HT := Aside0.mk (HS.out.two hb)
  clear hb HS
  have HS := HT
  clear HT
  have HAB := Aside0.mk (rest_rests (place_begins l at_)).1
  generalize rest l (place l at_) = a at *
  clear t1 t1'
  go_wp2_with fail
  rcases back_l HAB.out h1 with hm | ⟨g, kk, hm, hgb, hcol, hk1, hk2, hm2⟩
  · refine (c_go HS.out.sl (nil_sl _) HAB.out (toList1 108) (by omega) (by omega) false _ hm).mono ?_
    rintro e w3 ⟨rfl, hb⟩
    have G7 := Aside0.mk (HS.out.two hb).bel.size
    have HT := Aside0.mk ((HS.out.two hb).goal 0 false false)
    clear hb HS hm
    have HS := HT
    clear HT
    simp only [goV_none]
    go_wp2_with fail
    rcases back_j HAB.out h1 with hm | ⟨gj, hj, hm, hgb, hm2, hhb, hst⟩
    · refine (c_go HS.out.sl (nil_sl _) HAB.out (toList1 106) (by omega) (by omega) false _ hm).mono ?_
      rintro e w5 ⟨rfl, hb⟩
      have HT := Aside0.mk (HS.out.two hb)
      clear hb HS
      have HS := HT
      clear HT
      simp only [goV_byLn, goV_none]
      obtain ⟨z0, z1, z2⟩ := HS.out.free (g := w3.heap.size) (x := 0) (y := false) (z := false) (by simp)
      obtain ⟨c70, c71, c72⟩ := HS.out.cells (g := w3.heap.size) (x := 0) (y := false) (z := false) (by simp)
      have HT := Aside0.mk (Ls.laid HS0.out HS.out (g := w3.heap.size) (x := 0) (y := false) (z := false) (by simp) G7.out 0 false false)
      go_wp2_with fail
      clear HS z0 z1 z2 c70 c71 c72
      have HS := HT
      clear HT hm
      rcases back_pair HAB.out with hm | ⟨q, h, hm, hgb, hgr, hm2, hh1, hhb, hst⟩
      · refine (c_go HS.out.sl (nil_sl _) HAB.out (toList1 37) (by omega) (by omega) false _ hm).mono ?_
        rintro e w7 ⟨rfl, hb⟩
        have HT := Aside0.mk (HS.out.two hb)
        clear hb HS
        have HS := HT
        clear HT
        simp only [goV_incl, goV_none]
        obtain ⟨z0, z1, z2⟩ := HS.out.free (g := w3.heap.size) (x := 0) (y := false) (z := false) (by simp)
        obtain ⟨c70, c71, c72⟩ := HS.out.cells (g := w3.heap.size) (x := 0) (y := false) (z := false) (by simp)
        have HT := Aside0.mk (Ls.laid HS0.out HS.out (g := w3.heap.size) (x := 0) (y := false) (z := false) (by simp) G7.out 0 false false)
        go_wp2_with fail
        clear HS
        have HS := HT
        clear HT
        go_ret
        exact ⟨rfl, HS.out.bel⟩
      · have HM := Aside0.mk hm2
        have h5' := hh1
        have hst' := Aside0.mk hst
        have hgb' := Aside0.mk hgb
        have hhb' := Aside0.mk hhb
        clear hm2 hst hgb hhb
        refine (c_go HS.out.sl (nil_sl _) HAB.out (toList1 37) (by omega) (by omega) false _ hm).mono ?_
        rintro e w7 ⟨rfl, hb⟩
        have HT := Aside0.mk (HS.out.two hb)
        clear hb HS
        have HS := HT
        clear HT
        simp only [goV_incl, goV_none]
        obtain ⟨z0, z1, z2⟩ := HS.out.free (g := w3.heap.size) (x := 0) (y := false) (z := false) (by simp)
        obtain ⟨c70, c71, c72⟩ := HS.out.cells (g := w3.heap.size) (x := 0) (y := false) (z := false) (by simp)
        clear hm
        have HT := Aside0.mk (Ls.laid HS0.out HS.out (g := w3.heap.size) (x := 0) (y := false) (z := false) (by simp) G7.out q true false)
        go_wp2_with fail
        clear HS z0 z1 z2 c70 c71 c72
        have HS := HT
        clear HT
        refine (c_go HS.out.sl (nil_sl _) hgb'.out (toList1 37) (by omega) (by omega) false _ HM.out).mono ?_
        rintro e w8 ⟨rfl, hb⟩
        have HT := Aside0.mk ((HS.out.two hb).goal h true false)
        clear hb HS
        have HS := HT
        clear HT
        simp only [goV_incl, goV_none]
        obtain ⟨c80, c81, c82⟩ := HS.out.cells (g := w8.heap.size) (x := h) (y := true) (z := false) (by simp)
        go_wp2_with fail
        refine (hst'.out ▸ c_StartB HS.out.sl hhb'.out).mono ?_
        rintro e w9 ⟨rfl, hb⟩
        have HT := Aside0.mk (HS.out.two hb)
        clear hb HS
        have HS := HT
        clear HT
        clear c80 c81 c82
        go_wp2_with fail
        refine (c_StartB HS.out.sl HAB.out).mono ?_
        rintro e w10 ⟨rfl, hb⟩
        have HT := Aside0.mk (HS.out.two hb)
        clear hb HS
        have HS := HT
        clear HT
        go_wp2_with fail
        go_ret
        exact ⟨rfl, HS.out.bel⟩
    · have HM := Aside0.mk hm2
      have hst' := Aside0.mk hst
      have hgb' := Aside0.mk hgb
      have hhb' := Aside0.mk hhb
      clear hm2 hst hgb hhb
      refine (c_go HS.out.sl (nil_sl _) HAB.out (toList1 106) (by omega) (by omega) false _ hm).mono ?_
      rintro e w5 ⟨rfl, hb⟩
      have HT := Aside0.mk (HS.out.two hb)
      clear hb HS
      have HS := HT
      clear HT
      simp only [goV_byLn, goV_none]
      obtain ⟨z0, z1, z2⟩ := HS.out.free (g := w3.heap.size) (x := 0) (y := false) (z := false) (by simp)
      obtain ⟨c70, c71, c72⟩ := HS.out.cells (g := w3.heap.size) (x := 0) (y := false) (z := false) (by simp)
      clear hm
      have HT := Aside0.mk (Ls.laid HS0.out HS.out (g := w3.heap.size) (x := 0) (y := false) (z := false) (by simp) G7.out gj false true)
      go_wp2_with fail
      clear HS z0 z1 z2 c70 c71 c72
      have HS := HT
      clear HT
      refine (c_go HS.out.sl (nil_sl _) hgb'.out (toList1 107) (by omega) (by omega) false _ HM.out).mono ?_
      rintro e w6 ⟨rfl, hb⟩
      have HT := Aside0.mk ((HS.out.two hb).goal hj false true)
      clear hb HS
      have HS := HT
      clear HT
      simp only [goV_byLn, goV_none]
      obtain ⟨c80, c81, c82⟩ := HS.out.cells (g := w6.heap.size) (x := hj) (y := false) (z := true) (by simp)
      go_wp2_with fail
      refine (hst'.out ▸ c_StartB HS.out.sl hhb'.out).mono ?_
      rintro e w11 ⟨rfl, hb⟩
      have HT := Aside0.mk (HS.out.two hb)
      clear hb HS
      have HS := HT
      clear HT
      clear c80 c81 c82
      go_wp2_with fail
      refine (c_StartB HS.out.sl HAB.out).mono ?_
      rintro e w12 ⟨rfl, hb⟩
      have HT := Aside0.mk (HS.out.two hb)
      clear hb HS
      have HS := HT
      clear HT
      go_wp2_with fail
      clear HM hst' hgb' hhb'
      rcases back_pair HAB.out with hm | ⟨q, h, hm, hgb, hgr, hm2, hh1, hhb, hst⟩
      · refine (c_go HS.out.sl (nil_sl _) HAB.out (toList1 37) (by omega) (by omega) false _ hm).mono ?_
        rintro e w13 ⟨rfl, hb⟩
        have HT := Aside0.mk (HS.out.two hb)
        clear hb HS
        have HS := HT
        clear HT
        simp only [goV_incl, goV_none]
        obtain ⟨z0, z1, z2⟩ := HS.out.free (g := w3.heap.size) (x := gj) (y := false) (z := true) (by simp)
        obtain ⟨c70, c71, c72⟩ := HS.out.cells (g := w3.heap.size) (x := gj) (y := false) (z := true) (by simp)
        have HT := Aside0.mk (Ls.laid HS0.out HS.out (g := w3.heap.size) (x := gj) (y := false) (z := true) (by simp) G7.out 0 false false)
        go_wp2_with fail
        clear HS
        have HS := HT
        clear HT
        go_ret
        exact ⟨rfl, HS.out.bel⟩
      · have HM := Aside0.mk hm2
        have h5' := hh1
        have hst' := Aside0.mk hst
        have hgb' := Aside0.mk hgb
        have hhb' := Aside0.mk hhb
        clear hm2 hst hgb hhb
        refine (c_go HS.out.sl (nil_sl _) HAB.out (toList1 37) (by omega) (by omega) false _ hm).mono ?_
        rintro e w13 ⟨rfl, hb⟩
        have HT := Aside0.mk (HS.out.two hb)
        clear hb HS
        have HS := HT
        clear HT
        simp only [goV_incl, goV_none]
        obtain ⟨z0, z1, z2⟩ := HS.out.free (g := w3.heap.size) (x := gj) (y := false) (z := true) (by simp)
        obtain ⟨c70, c71, c72⟩ := HS.out.cells (g := w3.heap.size) (x := gj) (y := false) (z := true) (by simp)
        clear hm
        have HT := Aside0.mk (Ls.laid HS0.out HS.out (g := w3.heap.size) (x := gj) (y := false) (z := true) (by simp) G7.out q true false)
        go_wp2_with fail
        clear HS z0 z1 z2 c70 c71 c72
        have HS := HT
        clear HT
        refine (c_go HS.out.sl (nil_sl _) hgb'.out (toList1 37) (by omega) (by omega) false _ HM.out).mono ?_
        rintro e w14 ⟨rfl, hb⟩
        have HT := Aside0.mk ((HS.out.two hb).goal h true false)
        clear hb HS
        have HS := HT
        clear HT
        simp only [goV_incl, goV_none]
        obtain ⟨c80, c81, c82⟩ := HS.out.cells (g := w14.heap.size) (x := h) (y := true) (z := false) (by simp)
        go_wp2_with fail
        refine (hst'.out ▸ c_StartB HS.out.sl hhb'.out).mono ?_
        rintro e w15 ⟨rfl, hb⟩
        have HT := Aside0.mk (HS.out.two hb)
        clear hb HS
        have HS := HT
        clear HT
        clear c80 c81 c82
        go_wp2_with fail
        refine (c_StartB HS.out.sl HAB.out).mono ?_
        rintro e w16 ⟨rfl, hb⟩
        have HT := Aside0.mk (HS.out.two hb)
        clear hb HS
        have HS := HT
        clear HT
        go_wp2_with fail
        go_ret
        exact ⟨rfl, HS.out.bel⟩
  · have HC := Aside0.mk hcol
    have HGB := Aside0.mk hgb
    have HM := Aside0.mk hm2
    have hc1 := column_le l (begins_le hgb)
    have hc2 := column_le l (begins_le HAB.out)
    have hc3 := begins_le hgb
    have hc4 := begins_le HAB.out
    clear hcol hgb hm2
    refine (c_go HS.out.sl (nil_sl _) HAB.out (toList1 108) (by omega) (by omega) false _ hm).mono ?_
    rintro e w3 ⟨rfl, hb⟩
    have G7 := Aside0.mk (HS.out.two hb).bel.size
    have HT := Aside0.mk ((HS.out.two hb).goal g false false)
    clear hb HS hm
    have HS := HT
    clear HT
    simp only [goV_plain, goV_none]
    obtain ⟨c70, c71, c72⟩ := HS.out.cells (g := w3.heap.size) (x := g) (y := false) (z := false) (by simp)
    go_wp2_with fail
    refine (c_ColumnB HS.out.sl HGB.out).mono ?_
    rintro e w17 ⟨rfl, hb⟩
    have HT := Aside0.mk (HS.out.two hb)
    clear hb HS
    have HS := HT
    clear HT
    clear c70 c71 c72
    go_wp2_with fail
    refine (c_ColumnB HS.out.sl HAB.out).mono ?_
    rintro e w18 ⟨rfl, hb⟩
    have HT := Aside0.mk (HS.out.two hb)
    clear hb HS
    have HS := HT
    clear HT
    obtain ⟨c70, c71, c72⟩ := HS.out.cells (g := w3.heap.size) (x := g) (y := false) (z := false) (by simp)
    go_wp2_with fail
    have ek : ((column l g : Nat) : Int) - ((column l a : Nat) : Int) = (kk : Int) := by have := HC.out; omega
    have HM2 : Aside0 (motion l g [104] [] (((column l g : Nat) : Int) - ((column l a : Nat) : Int)) false = some (plain_ a)) := ⟨by rw [ek]; exact HM.out⟩
    refine (c_go HS.out.sl (nil_sl _) HGB.out (toList1 104) (by omega) (by omega) false _ HM2.out).mono ?_
    rintro e w4 ⟨rfl, hb⟩
    have hk3 : 1 ≤ ((column l g : Nat) : Int) - ((column l a : Nat) : Int) := by omega
    have hk4 : ((column l g : Nat) : Int) - ((column l a : Nat) : Int) ≤ (n : Int) := by omega
    have HT := Aside0.mk ((HS.out.two hb).goal a false false)
    clear hb HS c70 c71 c72 ek
    have HS := HT
    clear HT
    simp only [goV_plain, goV_none]
    obtain ⟨c80, c81, c82⟩ := HS.out.cells (g := w4.heap.size) (x := a) (y := false) (z := false) (by simp)
    go_wp2_with fail
    clear HM HC HGB hc1 hc2 hc3 hc4 hk3 hk4 c80 c81 c82
    rcases back_j HAB.out h1 with hm | ⟨gj, hj, hm, hgb, hm2, hhb, hst⟩
    · refine (c_go HS.out.sl (nil_sl _) HAB.out (toList1 106) (by omega) (by omega) false _ hm).mono ?_
      rintro e w19 ⟨rfl, hb⟩
      have HT := Aside0.mk (HS.out.two hb)
      clear hb HS
      have HS := HT
      clear HT
      simp only [goV_byLn, goV_none]
      obtain ⟨z0, z1, z2⟩ := HS.out.free (g := w3.heap.size) (x := g) (y := false) (z := false) (by simp)
      obtain ⟨c70, c71, c72⟩ := HS.out.cells (g := w3.heap.size) (x := g) (y := false) (z := false) (by simp)
      have HT := Aside0.mk (Ls.laid HS0.out HS.out (g := w3.heap.size) (x := g) (y := false) (z := false) (by simp) G7.out 0 false false)
      go_wp2_with fail
      clear HS z0 z1 z2 c70 c71 c72
      have HS := HT
      clear HT hm
      rcases back_pair HAB.out with hm | ⟨q, h, hm, hgb, hgr, hm2, hh1, hhb, hst⟩
      · refine (c_go HS.out.sl (nil_sl _) HAB.out (toList1 37) (by omega) (by omega) false _ hm).mono ?_
        rintro e w21 ⟨rfl, hb⟩
        have HT := Aside0.mk (HS.out.two hb)
        clear hb HS
        have HS := HT
        clear HT
        simp only [goV_incl, goV_none]
        obtain ⟨z0, z1, z2⟩ := HS.out.free (g := w3.heap.size) (x := 0) (y := false) (z := false) (by simp)
        obtain ⟨c70, c71, c72⟩ := HS.out.cells (g := w3.heap.size) (x := 0) (y := false) (z := false) (by simp)
        have HT := Aside0.mk (Ls.laid HS0.out HS.out (g := w3.heap.size) (x := 0) (y := false) (z := false) (by simp) G7.out 0 false false)
        go_wp2_with fail
        clear HS
        have HS := HT
        clear HT
        go_ret
        exact ⟨rfl, HS.out.bel⟩
      · have HM := Aside0.mk hm2
        have h5' := hh1
        have hst' := Aside0.mk hst
        have hgb' := Aside0.mk hgb
        have hhb' := Aside0.mk hhb
        clear hm2 hst hgb hhb
        refine (c_go HS.out.sl (nil_sl _) HAB.out (toList1 37) (by omega) (by omega) false _ hm).mono ?_
        rintro e w21 ⟨rfl, hb⟩
        have HT := Aside0.mk (HS.out.two hb)
        clear hb HS
        have HS := HT
        clear HT
        simp only [goV_incl, goV_none]
        obtain ⟨z0, z1, z2⟩ := HS.out.free (g := w3.heap.size) (x := 0) (y := false) (z := false) (by simp)
        obtain ⟨c70, c71, c72⟩ := HS.out.cells (g := w3.heap.size) (x := 0) (y := false) (z := false) (by simp)
        clear hm
        have HT := Aside0.mk (Ls.laid HS0.out HS.out (g := w3.heap.size) (x := 0) (y := false) (z := false) (by simp) G7.out q true false)
        go_wp2_with fail
        clear HS z0 z1 z2 c70 c71 c72
        have HS := HT
        clear HT
        refine (c_go HS.out.sl (nil_sl _) hgb'.out (toList1 37) (by omega) (by omega) false _ HM.out).mono ?_
        rintro e w22 ⟨rfl, hb⟩
        have HT := Aside0.mk ((HS.out.two hb).goal h true false)
        clear hb HS
        have HS := HT
        clear HT
        simp only [goV_incl, goV_none]
        obtain ⟨c80, c81, c82⟩ := HS.out.cells (g := w22.heap.size) (x := h) (y := true) (z := false) (by simp)
        go_wp2_with fail
        refine (hst'.out ▸ c_StartB HS.out.sl hhb'.out).mono ?_
        rintro e w23 ⟨rfl, hb⟩
        have HT := Aside0.mk (HS.out.two hb)
        clear hb HS
        have HS := HT
        clear HT
        clear c80 c81 c82
        go_wp2_with fail
        refine (c_StartB HS.out.sl HAB.out).mono ?_
        rintro e w24 ⟨rfl, hb⟩
        have HT := Aside0.mk (HS.out.two hb)
        clear hb HS
        have HS := HT
        clear HT
        go_wp2_with fail
        go_ret
        exact ⟨rfl, HS.out.bel⟩
    · have HM := Aside0.mk hm2
      have hst' := Aside0.mk hst
      have hgb' := Aside0.mk hgb
      have hhb' := Aside0.mk hhb
      clear hm2 hst hgb hhb
      refine (c_go HS.out.sl (nil_sl _) HAB.out (toList1 106) (by omega) (by omega) false _ hm).mono ?_
      rintro e w19 ⟨rfl, hb⟩
      have HT := Aside0.mk (HS.out.two hb)
      clear hb HS
      have HS := HT
      clear HT
      simp only [goV_byLn, goV_none]
      obtain ⟨z0, z1, z2⟩ := HS.out.free (g := w3.heap.size) (x := g) (y := false) (z := false) (by simp)
      obtain ⟨c70, c71, c72⟩ := HS.out.cells (g := w3.heap.size) (x := g) (y := false) (z := false) (by simp)
      clear hm
      have HT := Aside0.mk (Ls.laid HS0.out HS.out (g := w3.heap.size) (x := g) (y := false) (z := false) (by simp) G7.out gj false true)
      go_wp2_with fail
      clear HS z0 z1 z2 c70 c71 c72
      have HS := HT
      clear HT
      refine (c_go HS.out.sl (nil_sl _) hgb'.out (toList1 107) (by omega) (by omega) false _ HM.out).mono ?_
      rintro e w20 ⟨rfl, hb⟩
      have HT := Aside0.mk ((HS.out.two hb).goal hj false true)
      clear hb HS
      have HS := HT
      clear HT
      simp only [goV_byLn, goV_none]
      obtain ⟨c80, c81, c82⟩ := HS.out.cells (g := w20.heap.size) (x := hj) (y := false) (z := true) (by simp)
      go_wp2_with fail
      refine (hst'.out ▸ c_StartB HS.out.sl hhb'.out).mono ?_
      rintro e w25 ⟨rfl, hb⟩
      have HT := Aside0.mk (HS.out.two hb)
      clear hb HS
      have HS := HT
      clear HT
      clear c80 c81 c82
      go_wp2_with fail
      refine (c_StartB HS.out.sl HAB.out).mono ?_
      rintro e w26 ⟨rfl, hb⟩
      have HT := Aside0.mk (HS.out.two hb)
      clear hb HS
      have HS := HT
      clear HT
      go_wp2_with fail
      clear HM hst' hgb' hhb'
      rcases back_pair HAB.out with hm | ⟨q, h, hm, hgb, hgr, hm2, hh1, hhb, hst⟩
      · refine (c_go HS.out.sl (nil_sl _) HAB.out (toList1 37) (by omega) (by omega) false _ hm).mono ?_
        rintro e w27 ⟨rfl, hb⟩
        have HT := Aside0.mk (HS.out.two hb)
        clear hb HS
        have HS := HT
        clear HT
        simp only [goV_incl, goV_none]
        obtain ⟨z0, z1, z2⟩ := HS.out.free (g := w3.heap.size) (x := gj) (y := false) (z := true) (by simp)
        obtain ⟨c70, c71, c72⟩ := HS.out.cells (g := w3.heap.size) (x := gj) (y := false) (z := true) (by simp)
        have HT := Aside0.mk (Ls.laid HS0.out HS.out (g := w3.heap.size) (x := gj) (y := false) (z := true) (by simp) G7.out 0 false false)
        go_wp2_with fail
        clear HS
        have HS := HT
        clear HT
        go_ret
        exact ⟨rfl, HS.out.bel⟩
      · have HM := Aside0.mk hm2
        have h5' := hh1
        have hst' := Aside0.mk hst
        have hgb' := Aside0.mk hgb
        have hhb' := Aside0.mk hhb
        clear hm2 hst hgb hhb
        refine (c_go HS.out.sl (nil_sl _) HAB.out (toList1 37) (by omega) (by omega) false _ hm).mono ?_
        rintro e w27 ⟨rfl, hb⟩
        have HT := Aside0.mk (HS.out.two hb)
        clear hb HS
        have HS := HT
        clear HT
        simp only [goV_incl, goV_none]
        obtain ⟨z0, z1, z2⟩ := HS.out.free (g := w3.heap.size) (x := gj) (y := false) (z := true) (by simp)
        obtain ⟨c70, c71, c72⟩ := HS.out.cells (g := w3.heap.size) (x := gj) (y := false) (z := true) (by simp)
        clear hm
        have HT := Aside0.mk (Ls.laid HS0.out HS.out (g := w3.heap.size) (x := gj) (y := false) (z := true) (by simp) G7.out q true false)
        go_wp2_with fail
        clear HS z0 z1 z2 c70 c71 c72
        have HS := HT
        clear HT
        refine (c_go HS.out.sl (nil_sl _) hgb'.out (toList1 37) (by omega) (by omega) false _ HM.out).mono ?_
        rintro e w28 ⟨rfl, hb⟩
        have HT := Aside0.mk ((HS.out.two hb).goal h true false)
        clear hb HS
        have HS := HT
        clear HT
        simp only [goV_incl, goV_none]
        obtain ⟨c80, c81, c82⟩ := HS.out.cells (g := w28.heap.size) (x := h) (y := true) (z := false) (by simp)
        go_wp2_with fail
        refine (hst'.out ▸ c_StartB HS.out.sl hhb'.out).mono ?_
        rintro e w29 ⟨rfl, hb⟩
        have HT := Aside0.mk (HS.out.two hb)
        clear hb HS
        have HS := HT
        clear HT
        clear c80 c81 c82
        go_wp2_with fail
        refine (c_StartB HS.out.sl HAB.out).mono ?_
        rintro e w30 ⟨rfl, hb⟩
        have HT := Aside0.mk (HS.out.two hb)
        clear hb HS
        have HS := HT
        clear HT
        go_wp2_with fail
        go_ret
        exact ⟨rfl, HS.out.bel⟩
theorem lawBack_calls (hS : Sl w A c l) (at_ : Int) (h1 : (Lit.int .i64 at_).wf = true) (n : Int) (h2 : (Lit.int .i64 n).wf = true) :
    Calls Try.prog 7 #[.slice A l.length c, .int .i64 at_, .int .i64 n] w fun e w' => e = .returned (.bool true) ∧ Below w.heap.size w w' := by
  by_cases h : 1000 < l.length ∨ n < 1 ∨ 1000 < n
  · exact lawBack_out hS at_ n h
  · obtain ⟨m, rfl⟩ : ∃ m : Nat, n = (m : Int) := ⟨n.toNat, by omega⟩
    exact lawBack_in hS at_ m (by omega) (by omega) (by omega)
end
end Go.Proofs.Ytiibjehnlphabaa

end

section
namespace Go.Proofs.Ytiibjehnlphabaa.moveBack
open Go.ChangeShapes Go.WideShapes Go.ChangeAt Go.RowKit
set_option linter.unusedVariables false
theorem own : ownKnob Try.prog.godebug = none := by kernel_rfl
theorem laidOut : laidOutB Try.prog = true := by kernel_rfl
def IsRow (k : IntKind) (w : World) (a : Option Addr) (len cap : Nat) (zs : List Int) : Prop :=
  (a = none ∧ len = 0 ∧ cap = 0 ∧ zs = []) ∨
  ∃ x, a = some x ∧ len ≤ cap ∧ cap ≤ maxLen ∧ zs.length = cap ∧ (∀ i, i < zs.length → w.cell? (x.add i) = some (.int k (zs.getD i 0))) ∧ ∀ n ∈ zs, (Lit.int k n).wf = true
set_option maxRecDepth 100000 in
theorem lifted (os : Os) (started : os.Started) (H : Type) (enc : TypeId × Value → H) :
    ReturnsInHanded {} Try.checked os 7 .any (Rows.moveBackSpec.pre6 enc Try.prog Try.f7 Rows.moveBackRow.domain false) (Rows.moveBackSpec.post enc Try.prog Try.f7 false true false false) := by
  refine returnsInHanded_of_change_sized (C := Try.checked) own started (by kernel_rfl) Try.func7
    (ChangeSpec.witness6 (enc := enc) (C := Try.checked) false ⟨#[], #[.slice none 0 0, .int .i64 0, .int .i64 0], []⟩ 8 (by kernel_rfl) (by kernel_rfl) (by kernel_rfl) (by kernel_rfl)) ?_
  intro W base args ds gs before hval0 hW hcnd hsz0 _
  have hsz : (DataW.weightsEach Try.prog (Try.f7.params.toList ++ Rows.moveBackSpec.plain.varTypes Try.prog) (ds ++ gs)).all (· ≤ reachBytes) = true := hsz0
  have hval : ∀ (j : Nat) t v, Try.f7.params[j]? = some t → args[j]? = some v → Value.okWide Try.prog W .any base t v := hval0
  have hW' := hW
  obtain ⟨p, q, hA0, hV, rfl, hfz, hnd⟩ := hW
  have hA : DataW.TrodAll enc Try.prog W 0 (fun _ => true) true Try.f7.params.toList args.toList ds p := hA0
  rw [Try.params7] at hA hval hsz
  obtain ⟨v0, vs0, d0, ds0, p0, q0, hargs, rfl, rfl, h0, r0⟩ := trodAll_cons hA
  obtain ⟨v1, vs1, d1, ds1, p1, q1, rfl, rfl, rfl, h1, r1⟩ := trodAll_cons r0
  obtain ⟨v2, vs2, d2, ds2, p2, q2, rfl, rfl, rfl, h2, r2⟩ := trodAll_cons r1
  obtain ⟨rfl, rfl, rfl⟩ := trodAll_nil r2
  obtain rfl : args = #[v0, v1, v2] := by cases args; simp_all
  obtain ⟨rfl, rfl⟩ := trodVars_none hV
  obtain ⟨a0, len0, cap0, rfl⟩ := okWide_slice Try.underlying23 (hval 0 23 v0 rfl rfl)
  have k0 := h0
  have lt0 : ∀ x ∈ p0, x.block < W.heap.size := by obtain ⟨m, hm⟩ := k0; exact DataW.trod_lt m _ _ _ hm
  obtain ⟨z0, w0⟩ : ∃ zs, IsRow .u8 W a0 len0 cap0 zs := by
    obtain ⟨fuel, hf⟩ := h0
    rcases open_ints Try.underlying23 Try.underlying5 (by kernel_rfl) hf with ⟨hcs, _⟩ | ⟨x, l, c, zs, hcs, _, hl, hm, hz, _, hcell, hwz⟩
    · simp [Value.cells] at hcs
      obtain ⟨rfl, rfl, rfl⟩ := hcs
      exact ⟨[], .inl ⟨rfl, rfl, rfl, rfl⟩⟩
    · simp [Value.cells] at hcs
      obtain ⟨rfl, rfl, rfl⟩ := hcs
      exact ⟨zs, .inr ⟨_, rfl, hl, hm, by simpa using hz, hcell, hwz⟩⟩
  have y0 : len0 * 1 ≤ 140737488351232 := Go.Proofs.YtiibjehnlphabaaW.PrintWords.sized_ints hsz (j := 0) (t := 23) rfl rfl Try.underlying23 Try.underlying5 (by kernel_rfl) (by kernel_rfl) h0
  obtain ⟨l0, rfl, hS0⟩ := row_sl w0 y0
  obtain ⟨a1, rfl, rfl, rfl, w1⟩ := open_int Try.underlying3 (hval 1 3 v1 rfl rfl) h1
  obtain ⟨a2, rfl, rfl, rfl, w2⟩ := open_int Try.underlying3 (hval 2 3 v2 rfl rfl) h2
  clear hA0 hval0 hsz0 hsz
  refine (lawBack_calls hS0 a1 w1 a2 w2).mono fun e W' ⟨he, bel⟩ => ?_
  subst he
  exact ⟨_, rfl, _, _, _, [], _, [], hW', trodAll_mk1 (shut_bool Try.underlying4 _), (trodAll_cons_mk (Below.trod laidOut (by kernel_rfl) (of_decide_eq_true (by kernel_rfl)) k0 bel lt0) (trodAll_cons_mk (shut_int Try.underlying3 w1) (trodAll_cons_mk (shut_int Try.underlying3 w2) trodAll_mk0))), rfl, bel.frame _, fun h => by cases h⟩
theorem over : Rows.moveBackRow.holds Try.pinned (OpenSpec.ofChange Rows.moveBackSpec) :=
  OpenClaim.holds_of_wide 7 Try.f7 rfl rfl rfl rfl rfl rfl rfl ⟨rfl, rfl, rfl, rfl, rfl⟩ rfl rfl rfl rfl rfl (by kernel_rfl) Try.func7 (by kernel_rfl)
    (of_decide_eq_true (by kernel_rfl)) (by unfold Func.isWrapper; first | (rw [if_pos (by decide +kernel)]; kernel_rfl) | (rw [if_neg (by decide +kernel)]; exact ⟨rfl, rfl⟩))
    (fun os started H enc _ => lifted os started H enc)
theorem proved : Rows.MoveBackSaid := over
end Go.Proofs.Ytiibjehnlphabaa.moveBack
namespace Go.Proofs.Ytiibjehnlphabaa
/-- The row, under a short name, for the claim. -/
theorem moveBack_holds : Rows.MoveBackSaid := moveBack.proved
end Go.Proofs.Ytiibjehnlphabaa

end
