/- The row of law MoveLines of chapter 23 holds, for every input that the row names (part 0). Conditions: none. -/
import Derived.WalkKit
import Derived.Deep.QuietTactic
import Derived.BigQuiet
import Derived.Deep.RegionHeld3
import Derived.IntWalk
import Derived.Test.YtiibjehnlphabaaRows
import Derived.ProofKit
import Derived.OpenShut
import Derived.ShutString
import Derived.ChangeOld
import Derived.Below
import Derived.SizedLaws
import Derived.Test.YtiibjehnlphabaaWSized
import Derived.Test.YtiibjehnlphabaaMB8
section
namespace Go.Proofs.Ytiibjehnlphabaa
open Go.RowKit Go.Proofs.YtiibjehnlphabaaW.PrintWords Go.Proofs.YtiibjehnlphabaaW.PrintMore Q
set_option linter.unusedVariables false
set_option linter.unusedSimpArgs false
section
variable {w : World} {A : Option Addr} {c : Nat} {l : List Int}
theorem nl_le (l : List Int) : ∀ m, nl l m ≤ m
  | 0 => Nat.le_refl _
  | m + 1 => by
    have := nl_le l m
    simp only [nl]; split <;> omega
/-- The line of a number, its first letter, how many lines are above it. -/
theorem line_of {n : Nat} (h1 : 1 ≤ n) : ∃ P : Nat, P = first l (lineN l (n - 1) 0) ∧ begins l P = true ∧ first l P = P ∧ nl l (start l P) = min (n - 1) (nl l l.length) ∧ nl l (start l P) = nl l P ∧ (n ≥ nl l l.length + 1 → P = first l l.length) := by
  have hS := lineN_nl (l := l) (m := n - 1) (s := 0) ⟨Nat.zero_le _, .inl rfl⟩
  have hSle := hS.1.1
  have hf := first_spec hSle
  have hsl := same_line hSle hf.2.1 hf.2.2
  refine ⟨_, rfl, hf.1, first_first hSle, ?_, nl_start l _, fun h => ?_⟩
  · rw [hsl.1, nl_start, hS.2]
    simp only [nl]
    omega
  · have e : lineN l (n - 1) 0 = start l l.length := isStart_eq hS.1 (isStart_start (Nat.le_refl _)) (by rw [nl_start, hS.2]; simp only [nl]; omega)
    rw [e]
    have hsle := start_le l l.length
    have := same_line (q := l.length) (p := start l l.length) (Nat.le_refl _) (Nat.le_refl _) (by have := fin_le (Nat.le_refl l.length); omega)
    exact first_same this.1 this.2
theorem down_is {n P : Nat} (h1 : 1 ≤ n) (hb : begins l P = true) : (motion l P [106] [] n false).isSome = decide (((nl l (start l P) : Nat) : Int) + (n : Int) < ((nl l l.length + 1 : Nat) : Int)) := by
  have hP := begins_le hb
  rw [motion_j, Option.isSome_map, times_nat h1, nl_start, Bool.eq_iff_iff, below_is hP, decide_eq_true_eq]
  omega
theorem up_is {n P : Nat} (h1 : 1 ≤ n) (hb : begins l P = true) : (motion l P [107] [] n false).isSome = decide ((n : Int) ≤ ((nl l (start l P) : Nat) : Int)) := by
  have hP := begins_le hb
  have := aboveN_is (l := l) (m := n) (isStart_start hP)
  rw [motion_k, Option.isSome_map, times_nat h1]
  unfold above
  rw [Bool.eq_iff_iff, this, decide_eq_true_eq]
  omega
def gx : Option Gl → Int
  | some (x, _, _) => x
  | none => 0
def gy : Option Gl → Bool
  | some (_, y, _) => y
  | none => false
def gz : Option Gl → Bool
  | some (_, _, z) => z
  | none => false
theorem goV_any (o : Option Gl) : goV o = .tuple #[.agg #[.int .i64 (gx o), .bool (gy o), .bool (gz o)], .bool o.isSome] := by
  cases o with
  | none => rfl
  | some t => obtain ⟨x, y, z⟩ := t; rfl
set_option maxRecDepth 100000 in
theorem lawLines_out (hS : Sl w A c l) (n : Int) (h : 500 < l.length ∨ n < 1 ∨ 1000 < n) :
    Calls Try.prog 9 #[.slice A l.length c, .int .i64 n] w fun e w' => e = .returned (.bool true) ∧ Below w.heap.size w w' := by
  have HS := Aside0.mk (Ls.begin_ hS)
  have hsz := hS.ok.size
  clear hS
  by_cases hl : 500 < l.length
  · have t1 : decide ((500 : Int) < (l.length : Int)) = true := decide_eq_true (by omega)
    have t1' : decide (500 < l.length) = true := decide_eq_true (by omega)
    go_enter Try.func9, Try.ntmps9
    go_wp2_with fail
    refine (awake_calls w).mono ?_
    rintro e w1 ⟨rfl, hb⟩
    have HT := Aside0.mk (HS.out.two hb)
    clear hb HS
    have HS := HT
    clear HT
    go_wp2_with fail
    go_ret
    exact ⟨rfl, HS.out.bel⟩
  · have t1 : decide ((500 : Int) < (l.length : Int)) = false := decide_eq_false (by omega)
    have t1' : decide (500 < l.length) = false := decide_eq_false (by omega)
    by_cases h2 : n < 1
    · have t2 : decide (n < 1) = true := decide_eq_true h2
      go_enter Try.func9, Try.ntmps9
      go_wp2_with fail
      refine (awake_calls w).mono ?_
      rintro e w1 ⟨rfl, hb⟩
      have HT := Aside0.mk (HS.out.two hb)
      clear hb HS
      have HS := HT
      clear HT
      go_wp2_with fail
      go_ret
      exact ⟨rfl, HS.out.bel⟩
    · have t2 : decide (n < 1) = false := decide_eq_false h2
      have t3 : decide (1000 < n) = true := decide_eq_true (by omega)
      go_enter Try.func9, Try.ntmps9
      go_wp2_with fail
      refine (awake_calls w).mono ?_
      rintro e w1 ⟨rfl, hb⟩
      have HT := Aside0.mk (HS.out.two hb)
      clear hb HS
      have HS := HT
      clear HT
      go_wp2_with fail
      go_ret
      exact ⟨rfl, HS.out.bel⟩
set_option maxRecDepth 100000 in
set_option maxHeartbeats 4000000 in
theorem lawLines_in (hS : Sl w A c l) (n : Nat) (hl : ¬ 500 < l.length) (h1 : 1 ≤ n) (h2 : n ≤ 1000) :
    Calls Try.prog 9 #[.slice A l.length c, .int .i64 (n : Int)] w fun e w' => e = .returned (.bool true) ∧ Below w.heap.size w w' := by
  have HS := Aside0.mk (Ls.begin_ hS)
  have hsz := hS.ok.size
  clear hS
  have t1 : decide ((500 : Int) < (l.length : Int)) = false := decide_eq_false (by omega)
  have t1' : decide (500 < l.length) = false := decide_eq_false (by omega)
  go_enter Try.func9, Try.ntmps9
  go_wp2_with fail
  refine (awake_calls w).mono ?_
  rintro e w1 ⟨rfl, hb⟩
  have HT := Aside0.mk (HS.out.two hb)
  clear hb HS
  have HS := HT
  clear HT
  go_wp2_with fail
  clear t1 t1'
  go_loopw [5, 6] (fun v5 v6 wr => ∃ i : Nat, v5 = .int .i64 ((nl l i + 1 : Nat) : Int) ∧ v6 = .int .i64 (i : Int) ∧ i ≤ l.length ∧ Aside0 (Ls w wr A c l [])) (fun _ v6 _ => l.length - (intOf v6).toNat)
  case atStart => exact ⟨0, rfl, rfl, Nat.zero_le _, HS⟩
  case round =>
    clear HS
    obtain ⟨i, rfl, rfl, hi, HS⟩ := hrel
    have hni := nl_le l i
    by_cases hlt : i < l.length
    · obtain ⟨b, off, rfl, hcell⟩ := HS.out.sl.at_ hlt
      obtain ⟨x, hx⟩ : ∃ x, x = l.getD i 0 := ⟨_, rfl⟩
      rw [← hx] at hcell
      have hnx : nl l (i + 1) = nl l i + if x = 10 then 1 else 0 := by rw [hx]; rfl
      have HX := Aside0.mk hnx
      clear hnx hx
      by_cases h10 : x = 10
      · have e1 : (x == 10) = true := beq_iff_eq.2 h10
        have HX2 := Aside0.mk (by have := HX.out; rw [if_pos h10] at this; exact this : nl l (i + 1) = nl l i + 1)
        clear h10 HX
        go_wp2_with fail
        go_roundw
        case rel => exact ⟨i + 1, by rw [HX2.out]; go_num, by go_num, hlt, HS⟩
        case measure => simp [intOf]; omega
      · have e1 : (x == 10) = false := beq_eq_false_iff_ne.2 h10
        have HX2 := Aside0.mk (by have := HX.out; rw [if_neg h10] at this; exact this : nl l (i + 1) = nl l i + 0)
        clear h10 HX
        go_wp2_with fail
        go_roundw
        case rel => exact ⟨i + 1, by rw [HX2.out, Nat.add_zero], by go_num, hlt, HS⟩
        case measure => simp [intOf]; omega
    · obtain rfl : i = l.length := by omega
      go_wp2_with fail
      obtain ⟨P, hP, hPb, hPf, hab, hab2, hlast⟩ := line_of (l := l) h1
      have hnl := nl_le l l.length
      have mG : motion l (place l 0) (⟨#[71]⟩ : ByteArray).toList [] (n : Int) false = some (byLn P) := by
        rw [toList1, motion_G, if_neg (by omega), show (n : Int).toNat = n by omega, hP]
      have mg : motion l (place l (l.length : Int)) (⟨#[103, 103]⟩ : ByteArray).toList [] (n : Int) false = some (byLn P) := by
        rw [toList2, motion_gg, show (n : Int).toNat = n by omega, hP]
      have mL : motion l (place l 0) (⟨#[71]⟩ : ByteArray).toList [] 0 false = some (byLn (first l l.length)) := by
        rw [toList1, motion_G, if_pos (by omega)]
      have hFP : first l (place l (P : Int)) = P := by rw [place_self hPb]; exact hPf
      have MG := Aside0.mk mG
      have Mg := Aside0.mk mg
      have ML := Aside0.mk mL
      have HPB := Aside0.mk hPb
      have HAB := Aside0.mk hab
      have HL := Aside0.mk hlast
      have HFP := Aside0.mk hFP
      clear mG mg mL hPb hab hlast hPf hP hab2 hFP hni
      generalize first l l.length = Q at *
      refine (Go_calls HS.out.sl (nil_sl _) 0 (by omega) (by omega) _ MG.out).mono ?_
      rintro e w2 ⟨rfl, hb⟩
      have HT := Aside0.mk ((HS.out.two hb).goal P false true)
      clear hb HS MG
      have HS := HT
      clear HT
      simp only [goV_byLn]
      go_wp2_with fail
      refine (Go_calls HS.out.sl (nil_sl _) (l.length : Int) (by omega) (by omega) _ Mg.out).mono ?_
      rintro e w3 ⟨rfl, hb⟩
      have HT := Aside0.mk ((HS.out.two hb).goal P false true)
      clear hb HS Mg
      have HS := HT
      clear HT
      simp only [goV_byLn]
      go_wp2_with fail
      refine (Go_calls HS.out.sl (nil_sl _) 0 (by omega) (by omega) _ ML.out).mono ?_
      rintro e w4 ⟨rfl, hb⟩
      have HT := Aside0.mk ((HS.out.two hb).goal Q false true)
      clear hb HS ML
      have HS := HT
      clear HT
      simp only [goV_byLn]
      go_wp2_with fail
      have FS : Aside0 (∀ w', Ls w w' A c l [(w4.heap.size, (Q : Int), false, true), (w3.heap.size, (P : Int), false, true), (w2.heap.size, (P : Int), false, true)] →
          (w'.cell? ⟨w2.heap.size, 0, none⟩ = some (.int .i64 (P : Int)) ∧ w'.cell? ⟨w2.heap.size, 2, none⟩ = some (.bool true) ∧ w'.cell? ⟨w3.heap.size, 0, none⟩ = some (.int .i64 (P : Int)))) := ⟨by
        intro w' h
        obtain ⟨c0, c1, c2⟩ := h.cells (g := w2.heap.size) (x := P) (y := false) (z := true) (by simp)
        obtain ⟨d0, d1, d2⟩ := h.cells (g := w3.heap.size) (x := P) (y := false) (z := true) (by simp)
        exact ⟨c0, c2, d0⟩⟩
      go_region_held3 (fun w' => w'.cell? ⟨w2.heap.size, 0, none⟩ = some (.int .i64 (P : Int)) ∧ w'.cell? ⟨w2.heap.size, 2, none⟩ = some (.bool true) ∧ w'.cell? ⟨w3.heap.size, 0, none⟩ = some (.int .i64 (P : Int)))
        (first | exact FS.out _ HS.out | exact FS.out _ (HS.out.two (below_drew (Below.refl _ _))))
        (first | (go_at_call 26; refine (HFP.out ▸ c_First (HS.out.two (by first | exact Below.refl _ _ | exact below_drew (Below.refl _ _) | exact pw_below_drewN (Below.refl _ _) _)).sl (P : Int)).mono ?_; rintro e w7 ⟨rfl, hd⟩; have HT := Aside0.mk (HS.out.step (by first | exact Below.refl _ _ | exact below_drew (Below.refl _ _) | exact pw_below_drewN (Below.refl _ _) _) hd); clear hd HS; have HS := HT; clear HT))
      clear FS HFP
      go_wp2_with fail
      have hsP := start_le l P
      have hPl := begins_le HPB.out
      go_loopw [13, 14] (fun v13 v14 wr => ∃ i : Nat, v13 = .int .i64 ((nl l i : Nat) : Int) ∧ v14 = .int .i64 (i : Int) ∧ i ≤ start l P ∧ Aside0 (Ls w wr A c l [(w4.heap.size, (Q : Int), false, true), (w3.heap.size, (P : Int), false, true), (w2.heap.size, (P : Int), false, true)])) (fun _ v14 _ => start l P - (intOf v14).toNat)
      case atStart => exact ⟨0, rfl, rfl, Nat.zero_le _, HS⟩
      case round =>
        clear HS
        obtain ⟨i, rfl, rfl, hi, HS⟩ := hrel
        have hni := nl_le l i
        obtain ⟨c0, c1, c2⟩ := HS.out.cells (g := w2.heap.size) (x := P) (y := false) (z := true) (by simp)
        by_cases hlt : i < start l P
        · have t1 : decide ((i : Int) < (start l P : Int)) = true := decide_eq_true (by omega)
          have t1' : decide (i < start l P) = true := decide_eq_true (by omega)
          go_wp2_with fail
          refine (c_StartB HS.out.sl HPB.out).mono ?_
          rintro e w9 ⟨rfl, hb⟩
          have HT := Aside0.mk (HS.out.two hb)
          clear hb HS c0 c1 c2
          have HS := HT
          clear HT
          obtain ⟨b, off, rfl, hcell⟩ := HS.out.sl.at_ (show i < l.length by omega)
          obtain ⟨x, hx⟩ : ∃ x, x = l.getD i 0 := ⟨_, rfl⟩
          rw [← hx] at hcell
          have hnx : nl l (i + 1) = nl l i + if x = 10 then 1 else 0 := by rw [hx]; rfl
          have HX := Aside0.mk hnx
          clear hnx hx
          by_cases h10 : x = 10
          · have e1 : (x == 10) = true := beq_iff_eq.2 h10
            have HX2 := Aside0.mk (by have := HX.out; rw [if_pos h10] at this; exact this : nl l (i + 1) = nl l i + 1)
            clear h10 HX
            go_wp2_with fail
            go_roundw
            case rel => exact ⟨i + 1, by rw [HX2.out]; go_num, by go_num, hlt, HS⟩
            case measure => simp [intOf]; omega
          · have e1 : (x == 10) = false := beq_eq_false_iff_ne.2 h10
            have HX2 := Aside0.mk (by have := HX.out; rw [if_neg h10] at this; exact this : nl l (i + 1) = nl l i + 0)
            clear h10 HX
            go_wp2_with fail
            go_roundw
            case rel => exact ⟨i + 1, by rw [HX2.out, Nat.add_zero], by go_num, hlt, HS⟩
            case measure => simp [intOf]; omega
        · obtain rfl : i = start l P := by omega
          have t1 : decide ((start l P : Int) < (start l P : Int)) = false := decide_eq_false (by omega)
          have t1' : decide (start l P < start l P) = false := decide_eq_false (by omega)
          go_wp2_with fail
          refine (c_StartB HS.out.sl HPB.out).mono ?_
          rintro e w9 ⟨rfl, hb⟩
          have HT := Aside0.mk (HS.out.two hb)
          clear hb HS c0 c1 c2 t1 t1'
          have HS := HT
          clear HT
          obtain ⟨c0, c1, c2⟩ := HS.out.cells (g := w2.heap.size) (x := P) (y := false) (z := true) (by simp)
          obtain ⟨d0, d1, d2⟩ := HS.out.cells (g := w4.heap.size) (x := Q) (y := false) (z := true) (by simp)
          have hge := HL.out
          clear HL
          obtain ⟨ab, hab⟩ : ∃ ab, ab = nl l (start l P) := ⟨_, rfl⟩
          obtain ⟨N, hN⟩ : ∃ N, N = nl l l.length := ⟨_, rfl⟩
          have hAB := HAB.out
          have down := Aside0.mk (down_is h1 HPB.out)
          have up := Aside0.mk (up_is h1 HPB.out)
          rw [← hab, ← hN] at hAB
          rw [← hN] at hnl hge
          rw [← hab] at hni
          simp only [← hab, ← hN] at down up
          rw [← hab, ← hN]
          clear HAB hab hN
          by_cases hc : n < N + 1
          · obtain rfl : n = ab + 1 := by omega
            clear hAB hge
            have t1 : decide (((ab + 1 : Nat) : Int) < ((N + 1 : Nat) : Int)) = true := decide_eq_true (by omega)
            have t1' : decide ((ab + 1 : Nat) < (N + 1 : Nat)) = true := decide_eq_true (by omega)
            go_wp2_with fail
            refine (c_go HS.out.sl (nil_sl _) HPB.out (toList1 106) (cn := ((ab + 1 : Nat) : Int)) (by omega) (by omega) false _ rfl).mono ?_
            rintro e w10 ⟨rfl, hb⟩
            simp only [goV_any]
            have dn := down.out
            generalize motion l P [106] [] ((ab + 1 : Nat) : Int) false = D at *
            have HT := Aside0.mk ((HS.out.two hb).goal (gx D) (gy D) (gz D))
            clear hb HS c0 c1 c2 down
            have HS := HT
            clear HT
            obtain ⟨c0, c1, c2⟩ := HS.out.cells (g := w2.heap.size) (x := P) (y := false) (z := true) (by simp)
            go_wp2_with fail
            refine (c_go HS.out.sl (nil_sl _) HPB.out (toList1 107) (cn := ((ab + 1 : Nat) : Int)) (by omega) (by omega) false _ rfl).mono ?_
            rintro e w11 ⟨rfl, hb⟩
            simp only [goV_any]
            have upp := up.out
            generalize motion l P [107] [] ((ab + 1 : Nat) : Int) false = U at *
            have HT := Aside0.mk ((HS.out.two hb).goal (gx U) (gy U) (gz U))
            clear hb HS c0 c1 c2 up
            have HS := HT
            clear HT
            generalize D.isSome = bd at *
            generalize U.isSome = bu at *
            obtain rfl : bu = false := by rw [upp]; exact decide_eq_false (by omega)
            have g1 : (bd == decide ((ab : Int) + ((ab : Int) + 1) < (N : Int) + 1)) = true := by rw [dn]; exact beq_self_eq_true _
            have g2 : (bd == decide (ab + (ab + 1) < N + 1)) = true := by
              rw [dn, beq_iff_eq, decide_eq_decide]
              omega
            have k1 : decide (((ab : Int) + 1 : Int) ≤ (ab : Int)) = false := decide_eq_false (by omega)
            have k2 : decide (ab + 1 ≤ ab) = false := decide_eq_false (by omega)
            clear dn upp
            go_wp2_with fail
            go_ret
            exact ⟨rfl, HS.out.bel⟩
          · obtain rfl : ab = N := by omega
            obtain rfl : P = Q := hge (by omega)
            clear hAB hge
            by_cases hc2 : ab + 1 < n
            · have t1 : decide ((n : Int) < ((ab + 1 : Nat) : Int)) = false := decide_eq_false (by omega)
              have t1' : decide (n < (ab + 1 : Nat)) = false := decide_eq_false (by omega)
              have t2 : decide (((ab + 1 : Nat) : Int) < (n : Int)) = true := decide_eq_true (by omega)
              have t2' : decide ((ab + 1 : Nat) < n) = true := decide_eq_true (by omega)
              go_wp2_with fail
              refine (c_go HS.out.sl (nil_sl _) HPB.out (toList1 106) (cn := (n : Int)) (by omega) (by omega) false _ rfl).mono ?_
              rintro e w10 ⟨rfl, hb⟩
              simp only [goV_any]
              have dn := down.out
              generalize motion l P [106] [] (n : Int) false = D at *
              have HT := Aside0.mk ((HS.out.two hb).goal (gx D) (gy D) (gz D))
              clear hb HS c0 c1 c2 down
              have HS := HT
              clear HT
              obtain ⟨c0, c1, c2⟩ := HS.out.cells (g := w2.heap.size) (x := P) (y := false) (z := true) (by simp)
              go_wp2_with fail
              refine (c_go HS.out.sl (nil_sl _) HPB.out (toList1 107) (cn := (n : Int)) (by omega) (by omega) false _ rfl).mono ?_
              rintro e w11 ⟨rfl, hb⟩
              simp only [goV_any]
              have upp := up.out
              generalize motion l P [107] [] (n : Int) false = U at *
              have HT := Aside0.mk ((HS.out.two hb).goal (gx U) (gy U) (gz U))
              clear hb HS c0 c1 c2 up
              have HS := HT
              clear HT
              generalize D.isSome = bd at *
              generalize U.isSome = bu at *
              obtain rfl : bu = false := by rw [upp]; exact decide_eq_false (by omega)
              obtain rfl : bd = false := by rw [dn]; exact decide_eq_false (by omega)
              have k1 : decide ((n : Int) ≤ (ab : Int)) = false := decide_eq_false (by omega)
              have k2 : decide (n ≤ ab) = false := decide_eq_false (by omega)
              clear dn upp
              go_wp2_with fail
              go_ret
              exact ⟨rfl, HS.out.bel⟩
            · obtain rfl : n = ab + 1 := by omega
              go_wp2_with fail
              refine (c_go HS.out.sl (nil_sl _) HPB.out (toList1 106) (cn := ((ab + 1 : Nat) : Int)) (by omega) (by omega) false _ rfl).mono ?_
              rintro e w10 ⟨rfl, hb⟩
              simp only [goV_any]
              have dn := down.out
              generalize motion l P [106] [] ((ab + 1 : Nat) : Int) false = D at *
              have HT := Aside0.mk ((HS.out.two hb).goal (gx D) (gy D) (gz D))
              clear hb HS c0 c1 c2 down
              have HS := HT
              clear HT
              obtain ⟨c0, c1, c2⟩ := HS.out.cells (g := w2.heap.size) (x := P) (y := false) (z := true) (by simp)
              go_wp2_with fail
              refine (c_go HS.out.sl (nil_sl _) HPB.out (toList1 107) (cn := ((ab + 1 : Nat) : Int)) (by omega) (by omega) false _ rfl).mono ?_
              rintro e w11 ⟨rfl, hb⟩
              simp only [goV_any]
              have upp := up.out
              generalize motion l P [107] [] ((ab + 1 : Nat) : Int) false = U at *
              have HT := Aside0.mk ((HS.out.two hb).goal (gx U) (gy U) (gz U))
              clear hb HS c0 c1 c2 up
              have HS := HT
              clear HT
              generalize D.isSome = bd at *
              generalize U.isSome = bu at *
              obtain rfl : bu = false := by rw [upp]; exact decide_eq_false (by omega)
              obtain rfl : bd = false := by rw [dn]; exact decide_eq_false (by omega)
              have k1 : decide ((ab : Int) + 1 ≤ (ab : Int)) = false := decide_eq_false (by omega)
              have k2 : decide (ab + 1 ≤ ab) = false := decide_eq_false (by omega)
              clear dn upp
              go_wp2_with fail
              go_ret
              exact ⟨rfl, HS.out.bel⟩
theorem lawLines_calls (hS : Sl w A c l) (n : Int) (h1 : (Lit.int .i64 n).wf = true) :
    Calls Try.prog 9 #[.slice A l.length c, .int .i64 n] w fun e w' => e = .returned (.bool true) ∧ Below w.heap.size w w' := by
  by_cases h : 500 < l.length ∨ n < 1 ∨ 1000 < n
  · exact lawLines_out hS n h
  · obtain ⟨m, rfl⟩ : ∃ m : Nat, n = (m : Int) := ⟨n.toNat, by omega⟩
    exact lawLines_in hS m (by omega) (by omega) (by omega)
end
end Go.Proofs.Ytiibjehnlphabaa

end

section
namespace Go.Proofs.Ytiibjehnlphabaa.moveLines
open Go.ChangeShapes Go.WideShapes Go.ChangeAt Go.RowKit
set_option linter.unusedVariables false
theorem own : ownKnob Try.prog.godebug = none := by kernel_rfl
theorem laidOut : laidOutB Try.prog = true := by kernel_rfl
def IsRow (k : IntKind) (w : World) (a : Option Addr) (len cap : Nat) (zs : List Int) : Prop :=
  (a = none ∧ len = 0 ∧ cap = 0 ∧ zs = []) ∨
  ∃ x, a = some x ∧ len ≤ cap ∧ cap ≤ maxLen ∧ zs.length = cap ∧ (∀ i, i < zs.length → w.cell? (x.add i) = some (.int k (zs.getD i 0))) ∧ ∀ n ∈ zs, (Lit.int k n).wf = true
set_option maxRecDepth 100000 in
theorem lifted (os : Os) (started : os.Started) (H : Type) (enc : TypeId × Value → H) :
    ReturnsInHanded {} Try.checked os 9 .any (Rows.moveLinesSpec.pre6 enc Try.prog Try.f9 Rows.moveLinesRow.domain false) (Rows.moveLinesSpec.post enc Try.prog Try.f9 false true false false) := by
  refine returnsInHanded_of_change_sized (C := Try.checked) own started (by kernel_rfl) Try.func9
    (ChangeSpec.witness6 (enc := enc) (C := Try.checked) false ⟨#[], #[.slice none 0 0, .int .i64 0], []⟩ 8 (by kernel_rfl) (by kernel_rfl) (by kernel_rfl) (by kernel_rfl)) ?_
  intro W base args ds gs before hval0 hW hcnd hsz0 _
  have hsz : (DataW.weightsEach Try.prog (Try.f9.params.toList ++ Rows.moveLinesSpec.plain.varTypes Try.prog) (ds ++ gs)).all (· ≤ reachBytes) = true := hsz0
  have hval : ∀ (j : Nat) t v, Try.f9.params[j]? = some t → args[j]? = some v → Value.okWide Try.prog W .any base t v := hval0
  have hW' := hW
  obtain ⟨p, q, hA0, hV, rfl, hfz, hnd⟩ := hW
  have hA : DataW.TrodAll enc Try.prog W 0 (fun _ => true) true Try.f9.params.toList args.toList ds p := hA0
  rw [Try.params9] at hA hval hsz
  obtain ⟨v0, vs0, d0, ds0, p0, q0, hargs, rfl, rfl, h0, r0⟩ := trodAll_cons hA
  obtain ⟨v1, vs1, d1, ds1, p1, q1, rfl, rfl, rfl, h1, r1⟩ := trodAll_cons r0
  obtain ⟨rfl, rfl, rfl⟩ := trodAll_nil r1
  obtain rfl : args = #[v0, v1] := by cases args; simp_all
  obtain ⟨rfl, rfl⟩ := trodVars_none hV
  obtain ⟨a0, len0, cap0, rfl⟩ := okWide_slice Try.underlying23 (hval 0 23 v0 rfl rfl)
  have k0 := h0
  have lt0 : ∀ x ∈ p0, x.block < W.heap.size := by obtain ⟨m, hm⟩ := k0; exact DataW.trod_lt m _ _ _ hm
  obtain ⟨z0, w0⟩ : ∃ zs, IsRow .u8 W a0 len0 cap0 zs := by
    obtain ⟨fuel, hf⟩ := h0
    rcases open_ints Try.underlying23 Try.underlying5 (by kernel_rfl) hf with ⟨hcs, _⟩ | ⟨x, l, c, zs, hcs, _, hl, hm, hz, _, hcell, hwz⟩
    · simp [Value.cells] at hcs
      obtain ⟨rfl, rfl, rfl⟩ := hcs
      exact ⟨[], .inl ⟨rfl, rfl, rfl, rfl⟩⟩
    · simp [Value.cells] at hcs
      obtain ⟨rfl, rfl, rfl⟩ := hcs
      exact ⟨zs, .inr ⟨_, rfl, hl, hm, by simpa using hz, hcell, hwz⟩⟩
  have y0 : len0 * 1 ≤ 140737488351232 := Go.Proofs.YtiibjehnlphabaaW.PrintWords.sized_ints hsz (j := 0) (t := 23) rfl rfl Try.underlying23 Try.underlying5 (by kernel_rfl) (by kernel_rfl) h0
  obtain ⟨l0, rfl, hS0⟩ := row_sl w0 y0
  obtain ⟨a1, rfl, rfl, rfl, w1⟩ := open_int Try.underlying3 (hval 1 3 v1 rfl rfl) h1
  clear hA0 hval0 hsz0 hsz
  refine (lawLines_calls hS0 a1 w1).mono fun e W' ⟨he, bel⟩ => ?_
  subst he
  exact ⟨_, rfl, _, _, _, [], _, [], hW', trodAll_mk1 (shut_bool Try.underlying4 _), (trodAll_cons_mk (Below.trod laidOut (by kernel_rfl) (of_decide_eq_true (by kernel_rfl)) k0 bel lt0) (trodAll_cons_mk (shut_int Try.underlying3 w1) trodAll_mk0)), rfl, bel.frame _, fun h => by cases h⟩
theorem over : Rows.moveLinesRow.holds Try.pinned (OpenSpec.ofChange Rows.moveLinesSpec) :=
  OpenClaim.holds_of_wide 9 Try.f9 rfl rfl rfl rfl rfl rfl rfl ⟨rfl, rfl, rfl, rfl, rfl⟩ rfl rfl rfl rfl rfl (by kernel_rfl) Try.func9 (by kernel_rfl)
    (of_decide_eq_true (by kernel_rfl)) (by unfold Func.isWrapper; first | (rw [if_pos (by decide +kernel)]; kernel_rfl) | (rw [if_neg (by decide +kernel)]; exact ⟨rfl, rfl⟩))
    (fun os started H enc _ => lifted os started H enc)
theorem proved : Rows.MoveLinesSaid := over
end Go.Proofs.Ytiibjehnlphabaa.moveLines
namespace Go.Proofs.Ytiibjehnlphabaa
/-- The row, under a short name, for the claim. -/
theorem moveLines_holds : Rows.MoveLinesSaid := moveLines.proved
end Go.Proofs.Ytiibjehnlphabaa

end
