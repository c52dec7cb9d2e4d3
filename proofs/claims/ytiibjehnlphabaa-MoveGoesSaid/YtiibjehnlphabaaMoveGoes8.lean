/- The row of law MoveGoes of chapter 23 holds, for every input that the row names (part 8). Conditions: none. A program joined it out of texts of this work; the words (namespaces YtiibjehnlphabaaW..) and the functions named X.f with their contracts X.calls were first written by the print tool of the kit, the functions in a copy of it that takes given contracts; what the theorem does not use is struck. -/
import Derived.WalkKit
import Derived.Deep.QuietTactic
import Derived.BigQuiet
import Derived.Deep.RegionHeld3
import Derived.Laws.IdiomStrings
import Derived.IntWalk
import Derived.Test.YtiibjehnlphabaaMoveGoes7
section
namespace Go.Proofs.Ytiibjehnlphabaa
open Go.RowKit Go.Proofs.YtiibjehnlphabaaW.PrintWords Go.Proofs.YtiibjehnlphabaaW.PrintMore Q
set_option linter.unusedVariables false
set_option linter.unusedSimpArgs false
section
variable {w : World} {g : Nat} {A : Option Addr} {c : Nat} {l : List Int} {i : Nat} {n : Nat} {op : Bool} {key : ByteArray} {A2 : Option Addr} {c2 : Nat} {a : List Int} {cn : Int}
set_option maxHeartbeats 1000000 in
set_option maxRecDepth 100000 in
theorem behind_calls (hW : Wk w g A c l i n op key A2 c2 a cn) (o : Option Nat) (h : behind l a n i = o) :
    Calls Try.prog 101 #[.pointer (some ⟨g, 0, none⟩)] w fun e w' => e = endI o ∧ Below w.heap.size w w' := by
  rw [behind_eq l a n (begins_le hW.beg)] at h
  have hf := start_le l i
  by_cases h1 : one a = true
  · rw [if_pos h1] at h
    have HO := Aside0.mk h
    have h1' := Aside0.mk h1
    clear h h1
    have HS := Aside0.mk (Su.begin_ hW)
    have hn1 := hW.n1
    have hn2 := hW.n2
    have hi := begins_le hW.beg
    have hsz := hW.sl.ok.size
    clear hW
    obtain ⟨f0, f1, f2, f3, f4, f5, f6, _, _, _, _, _⟩ := HS.out.wk
    go_enter Try.func101, Try.ntmps101
    go_wp2_with fail
    refine (letter_ok (HS.out.two (by first | exact Below.refl _ _ | exact below_drew (Below.refl _ _) | exact pw_below_drewN (Below.refl _ _) _)).wk h1'.out).mono ?_
    rintro e w1 ⟨rfl, hd⟩
    have HT := Aside0.mk (HS.out.step (by first | exact Below.refl _ _ | exact below_drew (Below.refl _ _) | exact pw_below_drewN (Below.refl _ _) _) hd)
    clear hd f0 f1 f2 f3 f4 f5 f6 HS
    have HS := HT
    clear HT
    obtain ⟨f0, f1, f2, f3, f4, f5, f6, _, _, _, _, _⟩ := HS.out.wk
    go_wp2_with fail
    refine region_tail 8 (by kernel_rfl) (by kernel_rfl) _ rfl ?_
    simp only [List.take_succ_cons, List.take_zero, List.drop_succ_cons, List.drop_zero]
    repeat still_step
    refine wpStill_nil ?_
    go_wp2_with fail
    refine (c_start (HS.out.two (by first | exact Below.refl _ _ | exact below_drew (Below.refl _ _) | exact pw_below_drewN (Below.refl _ _) _)).wk.sl hi).mono ?_
    rintro e w3 ⟨rfl, hd⟩
    have HT := Aside0.mk (HS.out.step (by first | exact Below.refl _ _ | exact below_drew (Below.refl _ _) | exact pw_below_drewN (Below.refl _ _) _) hd.below)
    clear hd f0 f1 f2 f3 f4 f5 f6 HS
    have HS := HT
    clear HT
    obtain ⟨f0, f1, f2, f3, f4, f5, f6, _, _, _, _, _⟩ := HS.out.wk
    go_wp2_with fail
    go_loopw [4, 5] (fun v4 v5 wr => ∃ (k j : Nat), v4 = .int .i64 k ∧ v5 = .int .i64 j ∧ k < n ∧ j ≤ l.length ∧ Aside0 (behindOn l a (start l i) (n - k) j = o) ∧ Aside0 (Su w wr (Wk wr g A c l i n op key A2 c2 a cn))) (fun _ v5 _ => (intOf v5).toNat)
    case atStart => exact ⟨0, i, rfl, rfl, by omega, hi, HO, HS⟩
    case round =>
      clear f0 f1 f2 f3 f4 f5 f6 HS HO
      obtain ⟨k, j, rfl, rfl, hk, hj, HO, HS⟩ := hrel
      obtain ⟨f0, f1, f2, f3, f4, f5, f6, _, _, _, _, _⟩ := HS.out.wk
      have HE := Aside0.mk (HO.out.symm.trans (behindOn_eq l a (n - k) hj))
      clear HO
      by_cases h2 : start l i < j
      · skip
        have t2 : decide ((start l i : Int) < (j : Int)) = true := decide_eq_true (by omega)
        have t2' : decide (start l i < j) = true := decide_eq_true (by omega)
        have hg := lastSz_pos (l := l) (i := j) (by omega) hj
        have HE2 := Aside0.mk (HE.out.trans (if_pos h2))
        clear HE
        go_wp2_with fail
        refine (c_last (HS.out.two (by first | exact Below.refl _ _ | exact below_drew (Below.refl _ _) | exact pw_below_drewN (Below.refl _ _) _)).wk.sl hj).mono ?_
        rintro e w4 ⟨rfl, hd⟩
        have HT := Aside0.mk (HS.out.step (by first | exact Below.refl _ _ | exact below_drew (Below.refl _ _) | exact pw_below_drewN (Below.refl _ _) _) hd)
        clear hd f0 f1 f2 f3 f4 f5 f6 HS t2 t2'
        have HS := HT
        clear HT
        obtain ⟨f0, f1, f2, f3, f4, f5, f6, _, _, _, _, _⟩ := HS.out.wk
        have e1 : (j : Int) - (lastSz l j : Int) = ((j - lastSz l j : Nat) : Int) := by omega
        go_wp2_with fail
        clear e1
        refine (is_calls (HS.out.two (by first | exact Below.refl _ _ | exact below_drew (Below.refl _ _) | exact pw_below_drewN (Below.refl _ _) _)).wk (j - lastSz l j) (by omega)).mono ?_
        rintro e w5 ⟨rfl, hd⟩
        have HT := Aside0.mk (HS.out.step (by first | exact Below.refl _ _ | exact below_drew (Below.refl _ _) | exact pw_below_drewN (Below.refl _ _) _) hd)
        clear hd f0 f1 f2 f3 f4 f5 f6 HS
        have HS := HT
        clear HT
        obtain ⟨f0, f1, f2, f3, f4, f5, f6, _, _, _, _, _⟩ := HS.out.wk
        by_cases h4 : isAt l a (j - lastSz l j) = true
        · have HE3 := Aside0.mk (HE2.out.trans (if_pos h4))
          clear HE2
          rw [h4]
          clear h4
          by_cases h5 : k + 1 = n
          · have te : (((k : Nat) : Int) + 1 == (n : Int)) = true := beq_iff_eq.2 (by omega)
            have HE4 := Aside0.mk (HE3.out.trans (if_pos (show n - k = 1 by omega)))
            clear h5
            go_wp2_with fail
            go_ret
            exact ⟨by rw [HE4.out]; rfl, HS.out.bel⟩
          · have te : (((k : Nat) : Int) + 1 == (n : Int)) = false := beq_eq_false_iff_ne.2 (by omega)
            have HE4 := Aside0.mk (HE3.out.trans (if_neg (show ¬ n - k = 1 by omega)))
            go_wp2_with fail
            go_roundw
            case rel => exact ⟨k + 1, j - lastSz l j, by go_num, by go_num, by omega, by omega, ⟨by rw [HE4.out, show n - (k + 1) = n - k - 1 by omega]⟩, HS⟩
            case measure => simp [intOf]; omega
        · have HE3 := Aside0.mk (HE2.out.trans (if_neg h4))
          clear HE2
          have h4' : isAt l a (j - lastSz l j) = false := by simpa using h4
          rw [h4']
          clear h4 h4'
          go_wp2_with fail
          go_roundw
          case rel => exact ⟨k, j - lastSz l j, by go_num, by go_num, by omega, by omega, ⟨HE3.out.symm⟩, HS⟩
          case measure => simp [intOf]; omega
      · skip
        have t2 : decide ((start l i : Int) < (j : Int)) = false := decide_eq_false (by omega)
        have t2' : decide (start l i < j) = false := decide_eq_false (by omega)
        have HE2 := Aside0.mk (HE.out.trans (if_neg h2))
        clear HE
        go_wp2_with fail
        obtain rfl : o = none := HE2.out
        exact ⟨rfl, rfl, HS.out.bel⟩
  · rw [if_neg h1] at h
    subst h
    have h1' : one a = false := by simpa using h1
    clear h1
    have HS := Aside0.mk (Su.begin_ hW)
    have hn1 := hW.n1
    have hn2 := hW.n2
    have hi := begins_le hW.beg
    have hsz := hW.sl.ok.size
    clear hW
    obtain ⟨f0, f1, f2, f3, f4, f5, f6, _, _, _, _, _⟩ := HS.out.wk
    go_enter Try.func101, Try.ntmps101
    go_wp2_with fail
    refine (letter_no (HS.out.two (by first | exact Below.refl _ _ | exact below_drew (Below.refl _ _) | exact pw_below_drewN (Below.refl _ _) _)).wk h1').mono ?_
    rintro e w2 ⟨rfl, hd⟩
    have HT := Aside0.mk (HS.out.step (by first | exact Below.refl _ _ | exact below_drew (Below.refl _ _) | exact pw_below_drewN (Below.refl _ _) _) hd)
    clear hd f0 f1 f2 f3 f4 f5 f6 HS
    have HS := HT
    clear HT
    obtain ⟨f0, f1, f2, f3, f4, f5, f6, _, _, _, _, _⟩ := HS.out.wk
    go_wp2_with fail
    exact ⟨rfl, rfl, HS.out.bel⟩

set_option maxHeartbeats 400000 in
set_option maxRecDepth 100000 in
theorem find_calls (hW : Wk w g A c l i n op key A2 c2 a cn) (o : Option Gl) (h : ((ahead l a n i).map incl) = o) :
    Calls Try.prog 69 #[.pointer (some ⟨g, 0, none⟩)] w fun e w' => e = endG o ∧ Below w.heap.size w w' := by
  have HO := Aside0.mk h
  clear h
  have HS := Aside0.mk (St.begin_ hW)
  have hn1 := hW.n1
  have hn2 := hW.n2
  have hi := begins_le hW.beg
  have hsz := hW.sl.ok.size
  clear hW
  obtain ⟨f0, f1, f2, f3, f4, f5, f6, _, _, _, _, _⟩ := HS.out.wk
  go_enter Try.func69, Try.ntmps69
  go_wp2_with fail
  cases hx : ahead l a n i with
  | none =>
    obtain rfl : none = o := by rw [← HO.out, hx]; rfl
    have hx' := Aside0.mk hx
    clear hx
    refine (ahead_calls (HS.out.two (by first | exact Below.refl _ _ | exact below_drew (Below.refl _ _) | exact pw_below_drewN (Below.refl _ _) _)).wk none hx'.out).mono ?_
    rintro e w6 ⟨rfl, hd⟩
    have HT := Aside0.mk (HS.out.step (by first | exact Below.refl _ _ | exact below_drew (Below.refl _ _) | exact pw_below_drewN (Below.refl _ _) _) hd)
    clear hd f0 f1 f2 f3 f4 f5 f6 HS
    have HS := HT
    clear HT
    obtain ⟨f0, f1, f2, f3, f4, f5, f6, _, _, _, _, _⟩ := HS.out.wk
    simp only [endI]
    go_wp2_with fail
    exact ⟨rfl, rfl, HS.out.bel⟩
  | some p =>
    obtain rfl : some (incl p) = o := by rw [← HO.out, hx]; rfl
    have hx' := Aside0.mk hx
    clear hx
    refine (ahead_calls (HS.out.two (by first | exact Below.refl _ _ | exact below_drew (Below.refl _ _) | exact pw_below_drewN (Below.refl _ _) _)).wk (some p) hx'.out).mono ?_
    rintro e w7 ⟨rfl, hd⟩
    have HT := Aside0.mk (HS.out.step (by first | exact Below.refl _ _ | exact below_drew (Below.refl _ _) | exact pw_below_drewN (Below.refl _ _) _) hd)
    clear hd f0 f1 f2 f3 f4 f5 f6 HS
    have HS := HT
    clear HT
    obtain ⟨f0, f1, f2, f3, f4, f5, f6, _, _, _, _, _⟩ := HS.out.wk
    simp only [endI]
    obtain ⟨r0, r1, r2, z⟩ := HS.out.res.cell
    have z0 := z 0
    have z1 := z 1
    have z2 := z 2
    clear z
    go_wp2_with fail
    exact goal_postG HS.out rfl rfl rfl

set_option maxHeartbeats 400000 in
set_option maxRecDepth 100000 in
theorem findBack_calls (hW : Wk w g A c l i n op key A2 c2 a cn) (o : Option Gl) (h : ((behind l a n i).map plain_) = o) :
    Calls Try.prog 71 #[.pointer (some ⟨g, 0, none⟩)] w fun e w' => e = endG o ∧ Below w.heap.size w w' := by
  have HO := Aside0.mk h
  clear h
  have HS := Aside0.mk (St.begin_ hW)
  have hn1 := hW.n1
  have hn2 := hW.n2
  have hi := begins_le hW.beg
  have hsz := hW.sl.ok.size
  clear hW
  obtain ⟨f0, f1, f2, f3, f4, f5, f6, _, _, _, _, _⟩ := HS.out.wk
  go_enter Try.func71, Try.ntmps71
  go_wp2_with fail
  cases hx : behind l a n i with
  | none =>
    obtain rfl : none = o := by rw [← HO.out, hx]; rfl
    have hx' := Aside0.mk hx
    clear hx
    refine (behind_calls (HS.out.two (by first | exact Below.refl _ _ | exact below_drew (Below.refl _ _) | exact pw_below_drewN (Below.refl _ _) _)).wk none hx'.out).mono ?_
    rintro e w8 ⟨rfl, hd⟩
    have HT := Aside0.mk (HS.out.step (by first | exact Below.refl _ _ | exact below_drew (Below.refl _ _) | exact pw_below_drewN (Below.refl _ _) _) hd)
    clear hd f0 f1 f2 f3 f4 f5 f6 HS
    have HS := HT
    clear HT
    obtain ⟨f0, f1, f2, f3, f4, f5, f6, _, _, _, _, _⟩ := HS.out.wk
    simp only [endI]
    go_wp2_with fail
    exact ⟨rfl, rfl, HS.out.bel⟩
  | some p =>
    obtain rfl : some (plain_ p) = o := by rw [← HO.out, hx]; rfl
    have hx' := Aside0.mk hx
    clear hx
    refine (behind_calls (HS.out.two (by first | exact Below.refl _ _ | exact below_drew (Below.refl _ _) | exact pw_below_drewN (Below.refl _ _) _)).wk (some p) hx'.out).mono ?_
    rintro e w9 ⟨rfl, hd⟩
    have HT := Aside0.mk (HS.out.step (by first | exact Below.refl _ _ | exact below_drew (Below.refl _ _) | exact pw_below_drewN (Below.refl _ _) _) hd)
    clear hd f0 f1 f2 f3 f4 f5 f6 HS
    have HS := HT
    clear HT
    obtain ⟨f0, f1, f2, f3, f4, f5, f6, _, _, _, _, _⟩ := HS.out.wk
    simp only [endI]
    obtain ⟨r0, r1, r2, z⟩ := HS.out.res.cell
    have z0 := z 0
    have z1 := z 1
    have z2 := z 2
    clear z
    go_wp2_with fail
    exact goal_postG HS.out rfl rfl rfl

set_option maxHeartbeats 400000 in
set_option maxRecDepth 100000 in
theorem till_calls (hW : Wk w g A c l i n op key A2 c2 a cn) (o : Option Gl) (hb : ∀ p, ahead l a n i = some p → p ≤ l.length) (h : ((ahead l a n i).map fun p => incl (p - lastSz l p)) = o) :
    Calls Try.prog 70 #[.pointer (some ⟨g, 0, none⟩)] w fun e w' => e = endG o ∧ Below w.heap.size w w' := by
  have HO := Aside0.mk h
  have HB := Aside0.mk hb
  clear h hb
  have HS := Aside0.mk (St.begin_ hW)
  have hn1 := hW.n1
  have hn2 := hW.n2
  have hi := begins_le hW.beg
  have hsz := hW.sl.ok.size
  clear hW
  obtain ⟨f0, f1, f2, f3, f4, f5, f6, _, _, _, _, _⟩ := HS.out.wk
  go_enter Try.func70, Try.ntmps70
  go_wp2_with fail
  cases hx : ahead l a n i with
  | none =>
    obtain rfl : none = o := by rw [← HO.out, hx]; rfl
    have hx' := Aside0.mk hx
    clear hx
    refine (ahead_calls (HS.out.two (by first | exact Below.refl _ _ | exact below_drew (Below.refl _ _) | exact pw_below_drewN (Below.refl _ _) _)).wk none hx'.out).mono ?_
    rintro e w10 ⟨rfl, hd⟩
    have HT := Aside0.mk (HS.out.step (by first | exact Below.refl _ _ | exact below_drew (Below.refl _ _) | exact pw_below_drewN (Below.refl _ _) _) hd)
    clear hd f0 f1 f2 f3 f4 f5 f6 HS
    have HS := HT
    clear HT
    obtain ⟨f0, f1, f2, f3, f4, f5, f6, _, _, _, _, _⟩ := HS.out.wk
    simp only [endI]
    go_wp2_with fail
    exact ⟨rfl, rfl, HS.out.bel⟩
  | some p =>
    have hp := HB.out p hx
    have hle := lastSz_le hp
    obtain rfl : some (incl (p - lastSz l p)) = o := by rw [← HO.out, hx]; rfl
    have hx' := Aside0.mk hx
    clear hx
    refine (ahead_calls (HS.out.two (by first | exact Below.refl _ _ | exact below_drew (Below.refl _ _) | exact pw_below_drewN (Below.refl _ _) _)).wk (some p) hx'.out).mono ?_
    rintro e w11 ⟨rfl, hd⟩
    have HT := Aside0.mk (HS.out.step (by first | exact Below.refl _ _ | exact below_drew (Below.refl _ _) | exact pw_below_drewN (Below.refl _ _) _) hd)
    clear hd f0 f1 f2 f3 f4 f5 f6 HS
    have HS := HT
    clear HT
    obtain ⟨f0, f1, f2, f3, f4, f5, f6, _, _, _, _, _⟩ := HS.out.wk
    simp only [endI]
    go_wp2_with fail
    refine (c_last (HS.out.two (by first | exact Below.refl _ _ | exact below_drew (Below.refl _ _) | exact pw_below_drewN (Below.refl _ _) _)).wk.sl hp).mono ?_
    rintro e w12 ⟨rfl, hd⟩
    have HT := Aside0.mk (HS.out.step (by first | exact Below.refl _ _ | exact below_drew (Below.refl _ _) | exact pw_below_drewN (Below.refl _ _) _) hd)
    clear hd f0 f1 f2 f3 f4 f5 f6 HS
    have HS := HT
    clear HT
    obtain ⟨f0, f1, f2, f3, f4, f5, f6, _, _, _, _, _⟩ := HS.out.wk
    have e1 : (p : Int) - (lastSz l p : Int) = ((p - lastSz l p : Nat) : Int) := by omega
    obtain ⟨r0, r1, r2, z⟩ := HS.out.res.cell
    have z0 := z 0
    have z1 := z 1
    have z2 := z 2
    clear z
    go_wp2_with fail
    clear e1
    exact goal_postG HS.out rfl rfl rfl

set_option maxHeartbeats 400000 in
set_option maxRecDepth 100000 in
theorem tillBack_yes (hW : Wk w g A c l i n op key A2 c2 a cn) (p : Nat) (hx : behind l a n i = some p) (hp : p ≤ l.length) :
    Calls Try.prog 72 #[.pointer (some ⟨g, 0, none⟩)] w fun e w' => e = endG (some (plain_ (on l p))) ∧ Below w.heap.size w w' := by
  have hx' := Aside0.mk hx
  clear hx
  have HW0 := Aside0.mk hW
  have hg := Aside0.mk hW.lt
  have HS := Aside0.mk (St.begin_ hW)
  have hn1 := hW.n1
  have hn2 := hW.n2
  have hi := begins_le hW.beg
  have hsz := hW.sl.ok.size
  clear hW
  obtain ⟨f0, f1, f2, f3, f4, f5, f6, _, _, _, _, _⟩ := HS.out.wk
  go_enter Try.func72, Try.ntmps72
  go_wp2_with fail
  clear f0 f1 f2 f3 f4 f5 f6
  go_region_held3 (fun w' => w'.cell? ⟨g, 0, none⟩ = some (.slice A l.length c)) (first | exact HS.out.wk.f0 | exact (HS.out.two (below_drew (Below.refl _ _))).wk.f0 | exact (Wk.laid HS.out hg.out HW0.out _ _ _).wk.f0)
    (first | (go_at_call 101; refine (behind_calls (HS.out.two (by first | exact Below.refl _ _ | exact below_drew (Below.refl _ _) | exact pw_below_drewN (Below.refl _ _) _)).wk (some p) hx'.out).mono ?_; rintro e w13 ⟨rfl, hd⟩; have HT := Aside0.mk (HS.out.step (by first | exact Below.refl _ _ | exact below_drew (Below.refl _ _) | exact pw_below_drewN (Below.refl _ _) _) hd); clear hd HS; have HS := HT; clear HT; simp only [endI]) | (go_at_call 48; refine (c_on (HS.out.two (by first | exact Below.refl _ _ | exact below_drew (Below.refl _ _) | exact pw_below_drewN (Below.refl _ _) _)).wk.sl hp).mono ?_; rintro e w14 ⟨rfl, hd⟩; have HT := Aside0.mk (HS.out.step (by first | exact Below.refl _ _ | exact below_drew (Below.refl _ _) | exact pw_below_drewN (Below.refl _ _) _) hd); clear hd HS; have HS := HT; clear HT; obtain ⟨r0, r1, r2, z⟩ := HS.out.res.cell; have z0 := z 0; have z1 := z 1; have z2 := z 2; clear z))
  go_wp2_with fail
  exact goal_postG HS.out rfl rfl rfl

set_option maxHeartbeats 400000 in
set_option maxRecDepth 100000 in
theorem none_calls (hW : Wk w g A c l i n op key A2 c2 a cn) :
    Calls Try.prog 76 #[.pointer (some ⟨g, 0, none⟩)] w fun e w' => e = endG none ∧ Below w.heap.size w w' := by
  have HS := Aside0.mk (St.begin_ hW)
  have hn1 := hW.n1
  have hn2 := hW.n2
  have hi := begins_le hW.beg
  have hsz := hW.sl.ok.size
  clear hW
  obtain ⟨f0, f1, f2, f3, f4, f5, f6, _, _, _, _, _⟩ := HS.out.wk
  go_enter Try.func76, Try.ntmps76
  go_wp2_with fail
  exact ⟨rfl, rfl, HS.out.bel⟩

set_option maxHeartbeats 400000 in
set_option maxRecDepth 100000 in
theorem other_calls (hW : Wk w g A c l i n op key A2 c2 a cn) (m : Nat) (hm : m ≤ l.length) (o : Option Gl) (h : (let p := if op = true then m else rest l m; if p = i then none else some (plain_ p)) = o) :
    Calls Try.prog 102 #[.pointer (some ⟨g, 0, none⟩), .int .i64 (m : Int)] w fun e w' => e = endG o ∧ Below w.heap.size w w' := by
  have HO := Aside0.mk h
  clear h
  cases op with
  | true =>
    have HS := Aside0.mk (St.begin_ hW)
    have hn1 := hW.n1
    have hn2 := hW.n2
    have hi := begins_le hW.beg
    have hsz := hW.sl.ok.size
    clear hW
    obtain ⟨f0, f1, f2, f3, f4, f5, f6, _, _, _, _, _⟩ := HS.out.wk
    go_enter Try.func102, Try.ntmps102
    by_cases he : m = i
    · obtain rfl : none = o := by rw [← HO.out]; simp [he]
      have te : (((m : Nat) : Int) == ((i : Nat) : Int)) = true := beq_iff_eq.2 (by omega)
      have te' : (((m : Nat) : Int) != ((i : Nat) : Int)) = false := by rw [bne, te]; rfl
      have ten : (m == i) = true := beq_iff_eq.2 (by omega)
      have ten' : (m != i) = false := by rw [bne, ten]; rfl
      clear he
      go_wp2_with (first | (go_at_call 92; refine (must_ok _).mono ?_; rintro e wm ⟨rfl, rfl⟩) | (go_at_call 92; refine (must_no _).mono ?_; rintro e wm ⟨rfl, rfl⟩))
      exact ⟨rfl, rfl, HS.out.bel⟩
    · obtain rfl : some (plain_ m) = o := by rw [← HO.out]; simp [he]
      have te : (((m : Nat) : Int) == ((i : Nat) : Int)) = false := beq_eq_false_iff_ne.2 (by omega)
      have te' : (((m : Nat) : Int) != ((i : Nat) : Int)) = true := by rw [bne, te]; rfl
      have ten : (m == i) = false := beq_eq_false_iff_ne.2 (by omega)
      have ten' : (m != i) = true := by rw [bne, ten]; rfl
      go_wp2_with fail
      generalize (w.alloc (Obj.cells #[Value.int IntKind.i64 0, Value.bool false, Value.bool false] 25)) = W1 at *
      obtain ⟨r0, r1, r2, z⟩ := HS.out.res.cell
      have z0 := z 0
      have z1 := z 1
      have z2 := z 2
      clear z
      refine (must_ok _).mono ?_
      rintro e wm ⟨rfl, rfl⟩
      go_wp2_with fail
      exact goal_postG HS.out rfl rfl rfl
  | false =>
    have hr := rest_le hm
    have HS := Aside0.mk (St.begin_ hW)
    have hn1 := hW.n1
    have hn2 := hW.n2
    have hi := begins_le hW.beg
    have hsz := hW.sl.ok.size
    clear hW
    obtain ⟨f0, f1, f2, f3, f4, f5, f6, _, _, _, _, _⟩ := HS.out.wk
    go_enter Try.func102, Try.ntmps102
    go_wp2_with fail
    refine (c_rest (HS.out.two (by first | exact Below.refl _ _ | exact below_drew (Below.refl _ _) | exact pw_below_drewN (Below.refl _ _) _)).wk.sl hm).mono ?_
    rintro e w15 ⟨rfl, hd⟩
    have HT := Aside0.mk (HS.out.step (by first | exact Below.refl _ _ | exact below_drew (Below.refl _ _) | exact pw_below_drewN (Below.refl _ _) _) hd)
    clear hd f0 f1 f2 f3 f4 f5 f6 HS
    have HS := HT
    clear HT
    obtain ⟨f0, f1, f2, f3, f4, f5, f6, _, _, _, _, _⟩ := HS.out.wk
    by_cases he : rest l m = i
    · obtain rfl : none = o := by rw [← HO.out]; simp [he]
      have te : (((rest l m : Nat) : Int) == ((i : Nat) : Int)) = true := beq_iff_eq.2 (by omega)
      have te' : (((rest l m : Nat) : Int) != ((i : Nat) : Int)) = false := by rw [bne, te]; rfl
      have ten : (rest l m == i) = true := beq_iff_eq.2 (by omega)
      have ten' : (rest l m != i) = false := by rw [bne, ten]; rfl
      clear he
      go_wp2_with (first | (go_at_call 92; refine (must_ok _).mono ?_; rintro e wm ⟨rfl, rfl⟩) | (go_at_call 92; refine (must_no _).mono ?_; rintro e wm ⟨rfl, rfl⟩))
      exact ⟨rfl, rfl, HS.out.bel⟩
    · obtain rfl : some (plain_ (rest l m)) = o := by rw [← HO.out]; simp [he]
      have te : (((rest l m : Nat) : Int) == ((i : Nat) : Int)) = false := beq_eq_false_iff_ne.2 (by omega)
      have te' : (((rest l m : Nat) : Int) != ((i : Nat) : Int)) = true := by rw [bne, te]; rfl
      have ten : (rest l m == i) = false := beq_eq_false_iff_ne.2 (by omega)
      have ten' : (rest l m != i) = true := by rw [bne, ten]; rfl
      obtain ⟨r0, r1, r2, z⟩ := HS.out.res.cell
      have z0 := z 0
      have z1 := z 1
      have z2 := z 2
      clear z
      go_wp2_with (first | (go_at_call 92; refine (must_ok _).mono ?_; rintro e wm ⟨rfl, rfl⟩) | (go_at_call 92; refine (must_no _).mono ?_; rintro e wm ⟨rfl, rfl⟩))
      exact goal_postG HS.out rfl rfl rfl

theorem emptyDown_more (l : List Int) : ∀ (f f' i : Nat), l.length - i ≤ f → l.length - i ≤ f' → emptyDown l f i = emptyDown l f' i
  | 0, 0, _, _, _ => rfl
  | 0, f' + 1, i, h, _ => by
    simp only [emptyDown]
    rw [if_neg (by omega)]
  | f + 1, 0, i, _, h => by
    simp only [emptyDown]
    rw [if_neg (by omega)]
  | f + 1, f' + 1, i, h, h' => by
    simp only [emptyDown]
    by_cases hc : i < l.length
    · have hf := fin_le (l := l) (i := i + 1) (by omega)
      rw [if_pos hc, if_pos hc, emptyDown_more l f f' _ (by omega) (by omega)]
    · rw [if_neg hc, if_neg hc]
def downOn (l : List Int) (i : Nat) : Nat := emptyDown l (l.length - i) i
theorem downOn_eq (l : List Int) (i : Nat) : downOn l i = if i < l.length then (if fin l (i + 1) = i + 1 then i + 1 else downOn l (fin l (i + 1))) else i := by
  unfold downOn
  by_cases hc : i < l.length
  · obtain ⟨f, hf⟩ : ∃ f, l.length - i = f + 1 := ⟨l.length - i - 1, by omega⟩
    have hl := fin_le (l := l) (i := i + 1) (by omega)
    rw [hf, if_pos hc]
    simp only [emptyDown]
    rw [if_pos hc, emptyDown_more l f (l.length - fin l (i + 1)) _ (by omega) (by omega)]
  · rw [if_neg hc, show l.length - i = 0 by omega]
    rfl
theorem paraN_more (l : List Int) {n k j : Nat} (hk : k < n) (hj : j < l.length) : paraN l (n - k) j = paraN l (n - (k + 1)) (downOn l (fin l j)) := by
  obtain ⟨m, hm⟩ : ∃ m, n - k = m + 1 := ⟨n - k - 1, by omega⟩
  have hf := fin_le (l := l) (i := j) (by omega)
  rw [hm, show n - (k + 1) = m by omega]
  simp only [paraN, if_pos hj]
  rw [emptyDown_more l l.length (l.length - fin l j) _ (by omega) (by omega)]
  rfl
theorem paraN_end (l : List Int) {m j : Nat} (h : m = 0 ∨ ¬ j < l.length) : paraN l m j = j := by
  cases m with
  | zero => rfl
  | succ m => simp only [paraN]; rw [if_neg (by omega)]
theorem emptyUp_more (l : List Int) : ∀ (f f' i : Nat), i ≤ f → i ≤ f' → emptyUp l f i = emptyUp l f' i
  | 0, 0, _, _, _ => rfl
  | 0, f' + 1, i, h, _ => by
    simp only [emptyUp]
    rw [if_neg (by omega)]
  | f + 1, 0, i, _, h => by
    simp only [emptyUp]
    rw [if_neg (by omega)]
  | f + 1, f' + 1, i, h, h' => by
    simp only [emptyUp]
    by_cases hc : 0 < i
    · have hs := start_le l (i - 1)
      rw [if_pos hc, if_pos hc, emptyUp_more l f f' _ (by omega) (by omega)]
    · rw [if_neg hc, if_neg hc]
def upOn (l : List Int) (i : Nat) : Nat := emptyUp l i i
theorem upOn_eq (l : List Int) (i : Nat) : upOn l i = if 0 < i then (if fin l (start l (i - 1)) = start l (i - 1) then start l (i - 1) else upOn l (start l (i - 1))) else i := by
  unfold upOn
  by_cases hc : 0 < i
  · obtain ⟨f, rfl⟩ : ∃ f, i = f + 1 := ⟨i - 1, by omega⟩
    have hs := start_le l (f + 1 - 1)
    rw [if_pos hc]
    simp only [emptyUp]
    rw [if_pos hc, emptyUp_more l f (start l (f + 1 - 1)) _ (by omega) (by omega)]
  · rw [if_neg hc, show i = 0 by omega]
    rfl
theorem paraBackN_more (l : List Int) {n k j : Nat} (hk : k < n) (hj : 0 < j) (hl : j ≤ l.length) : paraBackN l (n - k) j = paraBackN l (n - (k + 1)) (upOn l (start l j)) := by
  obtain ⟨m, hm⟩ : ∃ m, n - k = m + 1 := ⟨n - k - 1, by omega⟩
  have hs := start_le l j
  rw [hm, show n - (k + 1) = m by omega]
  simp only [paraBackN, if_pos hj]
  rw [emptyUp_more l l.length (start l j) _ (by omega) (by omega)]
  rfl
theorem paraBackN_end (l : List Int) {m j : Nat} (h : m = 0 ∨ ¬ 0 < j) : paraBackN l m j = j := by
  cases m with
  | zero => rfl
  | succ m => simp only [paraBackN]; rw [if_neg (by omega)]

set_option maxHeartbeats 1000000 in
set_option maxRecDepth 100000 in
theorem paragraph_calls (hW : Wk w g A c l i n op key A2 c2 a cn) (o : Option Gl) (h : (let p := if op = true then paraN l n i else rest l (paraN l n i); if p = i then none else some (plain_ p)) = o) :
    Calls Try.prog 73 #[.pointer (some ⟨g, 0, none⟩)] w fun e w' => e = endG o ∧ Below w.heap.size w w' := by
  have HO := Aside0.mk h
  clear h
  have HS := Aside0.mk (St.begin_ hW)
  have hn1 := hW.n1
  have hn2 := hW.n2
  have hi := begins_le hW.beg
  have hsz := hW.sl.ok.size
  clear hW
  obtain ⟨f0, f1, f2, f3, f4, f5, f6, _, _, _, _, _⟩ := HS.out.wk
  go_enter Try.func73, Try.ntmps73
  go_wp2_with fail
  go_loopw [3, 4] (fun v3 v4 wr => ∃ (k j : Nat), v4 = .int .i64 k ∧ v3 = .int .i64 j ∧ k ≤ n ∧ j ≤ l.length ∧ Aside0 (paraN l (n - k) j = paraN l n i) ∧ Aside0 (St w wr w.heap.size (Wk wr g A c l i n op key A2 c2 a cn))) (fun _ v4 _ => n - (intOf v4).toNat)
  case atStart => exact ⟨0, i, rfl, rfl, by omega, hi, ⟨rfl⟩, HS⟩
  case round =>
    clear f0 f1 f2 f3 f4 f5 f6 HS
    obtain ⟨k, j, rfl, rfl, hk, hj, HL, HS⟩ := hrel
    obtain ⟨f0, f1, f2, f3, f4, f5, f6, _, _, _, _, _⟩ := HS.out.wk
    by_cases h1 : k < n
    · skip
      have t1 : decide ((k : Int) < (n : Int)) = true := decide_eq_true (by omega)
      have t1' : decide (k < n) = true := decide_eq_true (by omega)
      by_cases h2 : j < l.length
      · skip
        have t2 : decide ((j : Int) < (l.length : Int)) = true := decide_eq_true (by omega)
        have t2' : decide (j < l.length) = true := decide_eq_true (by omega)
        have hf := fin_le hj
        go_wp2_with fail
        refine (c_end (HS.out.two (by first | exact Below.refl _ _ | exact below_drew (Below.refl _ _) | exact pw_below_drewN (Below.refl _ _) _)).wk.sl hj).mono ?_
        rintro e w16 ⟨rfl, hd⟩
        have HT := Aside0.mk (HS.out.step (by first | exact Below.refl _ _ | exact below_drew (Below.refl _ _) | exact pw_below_drewN (Below.refl _ _) _) hd.below)
        clear hd f0 f1 f2 f3 f4 f5 f6 HS t1 t1' t2 t2'
        have HS := HT
        clear HT
        obtain ⟨f0, f1, f2, f3, f4, f5, f6, _, _, _, _, _⟩ := HS.out.wk
        go_wp2_with fail
        obtain ⟨wo, rfl⟩ : ∃ wo : World, wo = wr := ⟨_, rfl⟩
        go_loopw [3] (fun v3 wr => ∃ (q : Nat), v3 = .int .i64 q ∧ q ≤ l.length ∧ Aside0 (downOn l q = downOn l (fin l j)) ∧ Aside0 (St w wr w.heap.size (Wk wr g A c l i n op key A2 c2 a cn))) (fun v3 _ => l.length - (intOf v3).toNat)
        case atStart => exact ⟨fin l j, rfl, hf.2, ⟨rfl⟩, HS⟩
        case round =>
          clear f0 f1 f2 f3 f4 f5 f6 HS
          obtain ⟨q, rfl, hq, HQ, HS⟩ := hrel
          obtain ⟨f0, f1, f2, f3, f4, f5, f6, _, _, _, _, _⟩ := HS.out.wk
          have HE := Aside0.mk (HQ.out.symm.trans (downOn_eq l q))
          clear HQ
          by_cases h3 : q < l.length
          · skip
            have t3 : decide ((q : Int) < (l.length : Int)) = true := decide_eq_true (by omega)
            have t3' : decide (q < l.length) = true := decide_eq_true (by omega)
            have HE2 := Aside0.mk (HE.out.trans (if_pos h3))
            have hf2 := fin_le (l := l) (i := q + 1) (by omega)
            clear HE
            go_wp2_with fail
            have e1 : (q : Int) + 1 = ((q + 1 : Nat) : Int) := by omega
            rw [e1]
            clear e1
            refine (c_end (HS.out.two (by first | exact Below.refl _ _ | exact below_drew (Below.refl _ _) | exact pw_below_drewN (Below.refl _ _) _)).wk.sl (show q + 1 ≤ l.length by omega)).mono ?_
            rintro e w17 ⟨rfl, hd⟩
            have HT := Aside0.mk (HS.out.step (by first | exact Below.refl _ _ | exact below_drew (Below.refl _ _) | exact pw_below_drewN (Below.refl _ _) _) hd.below)
            clear hd f0 f1 f2 f3 f4 f5 f6 HS t3 t3'
            have HS := HT
            clear HT
            obtain ⟨f0, f1, f2, f3, f4, f5, f6, _, _, _, _, _⟩ := HS.out.wk
            by_cases h4 : fin l (q + 1) = q + 1
            · have te : ((fin l (q + 1) : Int) == (q : Int) + 1) = true := beq_iff_eq.2 (by omega)
              have HE3 := Aside0.mk (HE2.out.trans (if_pos h4))
              clear h4
              go_wp2_with fail
              go_roundw
              case rel => exact ⟨k + 1, q + 1, by go_num, by go_num, by omega, by omega, ⟨by rw [← HL.out, paraN_more l h1 h2, HE3.out]⟩, HS⟩
              case measure => simp [intOf]; omega
            · have te : ((fin l (q + 1) : Int) == (q : Int) + 1) = false := beq_eq_false_iff_ne.2 (by omega)
              have HE3 := Aside0.mk (HE2.out.trans (if_neg h4))
              go_wp2_with fail
              have e1 : (q : Int) + 1 = ((q + 1 : Nat) : Int) := by omega
              rw [e1]
              clear e1
              refine (c_end (HS.out.two (by first | exact Below.refl _ _ | exact below_drew (Below.refl _ _) | exact pw_below_drewN (Below.refl _ _) _)).wk.sl (show q + 1 ≤ l.length by omega)).mono ?_
              rintro e w18 ⟨rfl, hd⟩
              have HT := Aside0.mk (HS.out.step (by first | exact Below.refl _ _ | exact below_drew (Below.refl _ _) | exact pw_below_drewN (Below.refl _ _) _) hd.below)
              clear hd f0 f1 f2 f3 f4 f5 f6 HS
              have HS := HT
              clear HT
              obtain ⟨f0, f1, f2, f3, f4, f5, f6, _, _, _, _, _⟩ := HS.out.wk
              go_wp2_with fail
              go_roundw
              case rel => exact ⟨fin l (q + 1), by go_num, by omega, ⟨HE3.out.symm⟩, HS⟩
              case measure => simp [intOf]; omega
          · skip
            have t3 : decide ((q : Int) < (l.length : Int)) = false := decide_eq_false (by omega)
            have t3' : decide (q < l.length) = false := decide_eq_false (by omega)
            have HE2 := Aside0.mk (HE.out.trans (if_neg h3))
            clear HE
            go_wp2_with fail
            go_roundw
            case rel => exact ⟨k + 1, q, by go_num, by go_num, by omega, by omega, ⟨by rw [← HL.out, paraN_more l h1 h2, HE2.out]⟩, HS⟩
            case measure => simp [intOf]; omega
      · skip
        have t2 : decide ((j : Int) < (l.length : Int)) = false := decide_eq_false (by omega)
        have t2' : decide (j < l.length) = false := decide_eq_false (by omega)
        go_wp2_with fail
        refine (other_calls (HS.out.two (by first | exact Below.refl _ _ | exact below_drew (Below.refl _ _) | exact pw_below_drewN (Below.refl _ _) _)).wk j hj o (by rw [← HO.out, ← HL.out, paraN_end l (by omega)])).mono ?_
        rintro e w19 ⟨rfl, hd⟩
        have HT := Aside0.mk (HS.out.step (by first | exact Below.refl _ _ | exact below_drew (Below.refl _ _) | exact pw_below_drewN (Below.refl _ _) _) hd)
        clear hd f0 f1 f2 f3 f4 f5 f6 HS
        have HS := HT
        clear HT
        obtain ⟨f0, f1, f2, f3, f4, f5, f6, _, _, _, _, _⟩ := HS.out.wk
        cases o with
        | none =>
          simp only [endG]
          go_wp2_with fail
          exact ⟨rfl, rfl, HS.out.bel⟩
        | some p =>
          obtain ⟨x, y, z⟩ := p
          simp only [endG, goalV]
          obtain ⟨r0, r1, r2, zz⟩ := HS.out.res.cell
          have z0 := zz 0
          have z1 := zz 1
          have z2 := zz 2
          clear zz
          go_wp2_with fail
          exact goal_postG HS.out rfl rfl rfl
    · skip
      have t1 : decide ((k : Int) < (n : Int)) = false := decide_eq_false (by omega)
      have t1' : decide (k < n) = false := decide_eq_false (by omega)
      go_wp2_with fail
      refine (other_calls (HS.out.two (by first | exact Below.refl _ _ | exact below_drew (Below.refl _ _) | exact pw_below_drewN (Below.refl _ _) _)).wk j hj o (by rw [← HO.out, ← HL.out, paraN_end l (by omega)])).mono ?_
      rintro e w19 ⟨rfl, hd⟩
      have HT := Aside0.mk (HS.out.step (by first | exact Below.refl _ _ | exact below_drew (Below.refl _ _) | exact pw_below_drewN (Below.refl _ _) _) hd)
      clear hd f0 f1 f2 f3 f4 f5 f6 HS
      have HS := HT
      clear HT
      obtain ⟨f0, f1, f2, f3, f4, f5, f6, _, _, _, _, _⟩ := HS.out.wk
      cases o with
      | none =>
        simp only [endG]
        go_wp2_with fail
        exact ⟨rfl, rfl, HS.out.bel⟩
      | some p =>
        obtain ⟨x, y, z⟩ := p
        simp only [endG, goalV]
        obtain ⟨r0, r1, r2, zz⟩ := HS.out.res.cell
        have z0 := zz 0
        have z1 := zz 1
        have z2 := zz 2
        clear zz
        go_wp2_with fail
        exact goal_postG HS.out rfl rfl rfl
end
end Go.Proofs.Ytiibjehnlphabaa

end

section
namespace Go.Proofs.Ytiibjehnlphabaa
open Go.RowKit Go.Proofs.YtiibjehnlphabaaW.PrintWords Go.Proofs.YtiibjehnlphabaaW.PrintMore Q
set_option linter.unusedVariables false
set_option linter.unusedSimpArgs false
section
variable {w : World} {g : Nat} {A : Option Addr} {c : Nat} {l : List Int} {i : Nat} {n : Nat} {op : Bool} {key : ByteArray} {A2 : Option Addr} {c2 : Nat} {a : List Int} {cn : Int}
set_option maxHeartbeats 1000000 in
set_option maxRecDepth 100000 in
theorem paragraphBack_calls (hW : Wk w g A c l i n op key A2 c2 a cn) (o : Option Gl) (h : (if paraBackN l n i = i then none else some (plain_ (paraBackN l n i))) = o) :
    Calls Try.prog 74 #[.pointer (some ⟨g, 0, none⟩)] w fun e w' => e = endG o ∧ Below w.heap.size w w' := by
  have HO := Aside0.mk h
  clear h
  have HS := Aside0.mk (St.begin_ hW)
  have hn1 := hW.n1
  have hn2 := hW.n2
  have hi := begins_le hW.beg
  have hsz := hW.sl.ok.size
  clear hW
  obtain ⟨f0, f1, f2, f3, f4, f5, f6, _, _, _, _, _⟩ := HS.out.wk
  go_enter Try.func74, Try.ntmps74
  go_wp2_with fail
  go_loopw [3, 4] (fun v3 v4 wr => ∃ (k j : Nat), v4 = .int .i64 k ∧ v3 = .int .i64 j ∧ k ≤ n ∧ j ≤ l.length ∧ Aside0 (paraBackN l (n - k) j = paraBackN l n i) ∧ Aside0 (St w wr w.heap.size (Wk wr g A c l i n op key A2 c2 a cn))) (fun _ v4 _ => n - (intOf v4).toNat)
  case atStart => exact ⟨0, i, rfl, rfl, by omega, hi, ⟨rfl⟩, HS⟩
  case round =>
    clear f0 f1 f2 f3 f4 f5 f6 HS
    obtain ⟨k, j, rfl, rfl, hk, hj, HL, HS⟩ := hrel
    obtain ⟨f0, f1, f2, f3, f4, f5, f6, _, _, _, _, _⟩ := HS.out.wk
    by_cases h1 : k < n
    · skip
      have t1 : decide ((k : Int) < (n : Int)) = true := decide_eq_true (by omega)
      have t1' : decide (k < n) = true := decide_eq_true (by omega)
      by_cases h2 : 0 < j
      · have t2 : decide ((0 : Int) < (j : Int)) = true := decide_eq_true (by omega)
        have t2' : decide (0 < j) = true := decide_eq_true h2
        have hf := start_le l j
        go_wp2_with fail
        refine (c_start (HS.out.two (by first | exact Below.refl _ _ | exact below_drew (Below.refl _ _) | exact pw_below_drewN (Below.refl _ _) _)).wk.sl hj).mono ?_
        rintro e w1 ⟨rfl, hd⟩
        have HT := Aside0.mk (HS.out.step (by first | exact Below.refl _ _ | exact below_drew (Below.refl _ _) | exact pw_below_drewN (Below.refl _ _) _) hd.below)
        clear hd f0 f1 f2 f3 f4 f5 f6 HS t1 t1' t2 t2'
        have HS := HT
        clear HT
        obtain ⟨f0, f1, f2, f3, f4, f5, f6, _, _, _, _, _⟩ := HS.out.wk
        go_wp2_with fail
        obtain ⟨wo, rfl⟩ : ∃ wo : World, wo = wr := ⟨_, rfl⟩
        go_loopw [3] (fun v3 wr => ∃ (q : Nat), v3 = .int .i64 q ∧ q ≤ l.length ∧ Aside0 (upOn l q = upOn l (start l j)) ∧ Aside0 (St w wr w.heap.size (Wk wr g A c l i n op key A2 c2 a cn))) (fun v3 _ => (intOf v3).toNat)
        case atStart => exact ⟨start l j, rfl, by omega, ⟨rfl⟩, HS⟩
        case round =>
          clear f0 f1 f2 f3 f4 f5 f6 HS
          obtain ⟨q, rfl, hq, HQ, HS⟩ := hrel
          obtain ⟨f0, f1, f2, f3, f4, f5, f6, _, _, _, _, _⟩ := HS.out.wk
          have HE := Aside0.mk (HQ.out.symm.trans (upOn_eq l q))
          clear HQ
          by_cases h3 : 0 < q
          · have t3 : decide ((0 : Int) < (q : Int)) = true := decide_eq_true (by omega)
            have t3' : decide (0 < q) = true := decide_eq_true h3
            have HE2 := Aside0.mk (HE.out.trans (if_pos h3))
            have hs2 := start_le l (q - 1)
            have hf2 := fin_le (l := l) (i := start l (q - 1)) (by omega)
            clear HE
            go_wp2_with fail
            have e1 : (q : Int) - 1 = ((q - 1 : Nat) : Int) := by omega
            rw [e1]
            clear e1
            refine (c_start (HS.out.two (by first | exact Below.refl _ _ | exact below_drew (Below.refl _ _) | exact pw_below_drewN (Below.refl _ _) _)).wk.sl (show q - 1 ≤ l.length by omega)).mono ?_
            rintro e w2 ⟨rfl, hd⟩
            have HT := Aside0.mk (HS.out.step (by first | exact Below.refl _ _ | exact below_drew (Below.refl _ _) | exact pw_below_drewN (Below.refl _ _) _) hd.below)
            clear hd f0 f1 f2 f3 f4 f5 f6 HS t3 t3'
            have HS := HT
            clear HT
            obtain ⟨f0, f1, f2, f3, f4, f5, f6, _, _, _, _, _⟩ := HS.out.wk
            go_wp2_with fail
            refine (c_end (HS.out.two (by first | exact Below.refl _ _ | exact below_drew (Below.refl _ _) | exact pw_below_drewN (Below.refl _ _) _)).wk.sl (show start l (q - 1) ≤ l.length by omega)).mono ?_
            rintro e w3 ⟨rfl, hd⟩
            have HT := Aside0.mk (HS.out.step (by first | exact Below.refl _ _ | exact below_drew (Below.refl _ _) | exact pw_below_drewN (Below.refl _ _) _) hd.below)
            clear hd f0 f1 f2 f3 f4 f5 f6 HS
            have HS := HT
            clear HT
            obtain ⟨f0, f1, f2, f3, f4, f5, f6, _, _, _, _, _⟩ := HS.out.wk
            by_cases h4 : fin l (start l (q - 1)) = start l (q - 1)
            · skip
              have te : (((fin l (start l (q - 1)) : Nat) : Int) == ((start l (q - 1) : Nat) : Int)) = true := beq_iff_eq.2 (by omega)
              have te' : (((fin l (start l (q - 1)) : Nat) : Int) != ((start l (q - 1) : Nat) : Int)) = false := by rw [bne, te]; rfl
              have ten : (fin l (start l (q - 1)) == start l (q - 1)) = true := beq_iff_eq.2 (by omega)
              have ten' : (fin l (start l (q - 1)) != start l (q - 1)) = false := by rw [bne, ten]; rfl
              have HE3 := Aside0.mk (HE2.out.trans (if_pos h4))
              clear h4
              go_wp2_with fail
              go_roundw
              case rel => exact ⟨k + 1, start l (q - 1), by go_num, by go_num, by omega, by omega, ⟨by rw [← HL.out, paraBackN_more l h1 h2 hj, HE3.out]⟩, HS⟩
              case measure => simp [intOf]; omega
            · skip
              have te : (((fin l (start l (q - 1)) : Nat) : Int) == ((start l (q - 1) : Nat) : Int)) = false := beq_eq_false_iff_ne.2 (by omega)
              have te' : (((fin l (start l (q - 1)) : Nat) : Int) != ((start l (q - 1) : Nat) : Int)) = true := by rw [bne, te]; rfl
              have ten : (fin l (start l (q - 1)) == start l (q - 1)) = false := beq_eq_false_iff_ne.2 (by omega)
              have ten' : (fin l (start l (q - 1)) != start l (q - 1)) = true := by rw [bne, ten]; rfl
              have HE3 := Aside0.mk (HE2.out.trans (if_neg h4))
              go_wp2_with fail
              go_roundw
              case rel => exact ⟨start l (q - 1), by go_num, by omega, ⟨HE3.out.symm⟩, HS⟩
              case measure => simp [intOf]; omega
          · have t3 : decide ((0 : Int) < (q : Int)) = false := decide_eq_false (by omega)
            have t3' : decide (0 < q) = false := decide_eq_false h3
            have HE2 := Aside0.mk (HE.out.trans (if_neg h3))
            clear HE
            go_wp2_with fail
            go_roundw
            case rel => exact ⟨k + 1, q, by go_num, by go_num, by omega, by omega, ⟨by rw [← HL.out, paraBackN_more l h1 h2 hj, HE2.out]⟩, HS⟩
            case measure => simp [intOf]; omega
      · have t2 : decide ((0 : Int) < (j : Int)) = false := decide_eq_false (by omega)
        have t2' : decide (0 < j) = false := decide_eq_false h2
        by_cases he : j = i
        · obtain rfl : none = o := by rw [← HO.out, ← HL.out, paraBackN_end l (.inr h2), if_pos he]
          have te : (((j : Nat) : Int) == ((i : Nat) : Int)) = true := beq_iff_eq.2 (by omega)
          have te' : (((j : Nat) : Int) != ((i : Nat) : Int)) = false := by rw [bne, te]; rfl
          have ten : (j == i) = true := beq_iff_eq.2 (by omega)
          have ten' : (j != i) = false := by rw [bne, ten]; rfl
          clear he
          go_wp2_with (first | (go_at_call 92; refine (must_ok _).mono ?_; rintro e wm ⟨rfl, rfl⟩) | (go_at_call 92; refine (must_no _).mono ?_; rintro e wm ⟨rfl, rfl⟩))
          exact ⟨rfl, rfl, HS.out.bel⟩
        · obtain rfl : some (plain_ j) = o := by rw [← HO.out, ← HL.out, paraBackN_end l (.inr h2), if_neg he]
          have te : (((j : Nat) : Int) == ((i : Nat) : Int)) = false := beq_eq_false_iff_ne.2 (by omega)
          have te' : (((j : Nat) : Int) != ((i : Nat) : Int)) = true := by rw [bne, te]; rfl
          have ten : (j == i) = false := beq_eq_false_iff_ne.2 (by omega)
          have ten' : (j != i) = true := by rw [bne, ten]; rfl
          obtain ⟨r0, r1, r2, z⟩ := HS.out.res.cell
          have z0 := z 0
          have z1 := z 1
          have z2 := z 2
          clear z
          go_wp2_with (first | (go_at_call 92; refine (must_ok _).mono ?_; rintro e wm ⟨rfl, rfl⟩) | (go_at_call 92; refine (must_no _).mono ?_; rintro e wm ⟨rfl, rfl⟩))
          exact goal_postG HS.out rfl rfl rfl
    · skip
      have t1 : decide ((k : Int) < (n : Int)) = false := decide_eq_false (by omega)
      have t1' : decide (k < n) = false := decide_eq_false (by omega)
      by_cases he : j = i
      · obtain rfl : none = o := by rw [← HO.out, ← HL.out, paraBackN_end l (.inl (by omega)), if_pos he]
        have te : (((j : Nat) : Int) == ((i : Nat) : Int)) = true := beq_iff_eq.2 (by omega)
        have te' : (((j : Nat) : Int) != ((i : Nat) : Int)) = false := by rw [bne, te]; rfl
        have ten : (j == i) = true := beq_iff_eq.2 (by omega)
        have ten' : (j != i) = false := by rw [bne, ten]; rfl
        clear he
        go_wp2_with (first | (go_at_call 92; refine (must_ok _).mono ?_; rintro e wm ⟨rfl, rfl⟩) | (go_at_call 92; refine (must_no _).mono ?_; rintro e wm ⟨rfl, rfl⟩))
        exact ⟨rfl, rfl, HS.out.bel⟩
      · obtain rfl : some (plain_ j) = o := by rw [← HO.out, ← HL.out, paraBackN_end l (.inl (by omega)), if_neg he]
        have te : (((j : Nat) : Int) == ((i : Nat) : Int)) = false := beq_eq_false_iff_ne.2 (by omega)
        have te' : (((j : Nat) : Int) != ((i : Nat) : Int)) = true := by rw [bne, te]; rfl
        have ten : (j == i) = false := beq_eq_false_iff_ne.2 (by omega)
        have ten' : (j != i) = true := by rw [bne, ten]; rfl
        obtain ⟨r0, r1, r2, z⟩ := HS.out.res.cell
        have z0 := z 0
        have z1 := z 1
        have z2 := z 2
        clear z
        go_wp2_with (first | (go_at_call 92; refine (must_ok _).mono ?_; rintro e wm ⟨rfl, rfl⟩) | (go_at_call 92; refine (must_no _).mono ?_; rintro e wm ⟨rfl, rfl⟩))
        exact goal_postG HS.out rfl rfl rfl

theorem brackets_calls : Calls Try.prog 103 #[] w fun e w' => e = .returned (.tuple #[.string ⟨#[40, 91, 123]⟩, .string ⟨#[41, 93, 125]⟩]) ∧ w = w' := by
  go_enter Try.func103, Try.ntmps103
  go_wp2
  go_ret2
  exact ⟨rfl, rfl⟩
end
end Go.Proofs.Ytiibjehnlphabaa

end

section
namespace Go.Proofs.Ytiibjehnlphabaa
open Go.RowKit Go.Proofs.YtiibjehnlphabaaW.PrintWords Go.Proofs.YtiibjehnlphabaaW.PrintMore Q
set_option linter.unusedVariables false
set_option linter.unusedSimpArgs false
section
variable {w : World} {g : Nat} {A : Option Addr} {c : Nat} {l : List Int} {i : Nat} {n : Nat} {op : Bool} {key : ByteArray} {A2 : Option Addr} {c2 : Nat} {a : List Int} {cn : Int}
def nums_ (s : ByteArray) : List Int := s.data.toList.map fun b => (b.toNat : Int)
theorem bytesRow_C (w : World) (s : ByteArray) (hs : s.size ≤ 1000) (cap : Nat) (fr : Nat × Nat) : Kd.C (Kd.int .u8) ((w.alloc (.cells (bytesRow s cap) 5 fr)).drew) (some ⟨w.heap.size, 0, none⟩) (nums_ s).length (nums_ s) := by
  refine Kd.C_of_reads (enc := Value.int .u8) (d := (0 : Int)) (h1 := fun _ => rfl) ?_
  have hl : (nums_ s).length = s.data.size := by simp [nums_]
  refine ⟨rfl, by rw [hl]; change s.data.size ≤ 1000 at hs; omega, fun _ => ⟨_, rfl, fun j hj => ?_⟩⟩
  rw [hl] at hj
  have := World.cell?_alloc_mark w (bytesRow s cap) 5 fr j
  rw [Addr.add_lit, Nat.zero_add]
  refine this.trans ?_
  rw [bytesRow_at s cap j hj]
  simp [nums_, List.getD_eq_getElem?_getD, hj]
  rw [Array.getElem?_eq_getElem hj]
  rfl
theorem c_conv {w : World} (s : ByteArray) (hs : s.size ≤ 1000) (n cap : Nat) (hn : n = s.size) (hc : n ≤ cap) (fr : Nat × Nat) (x : Int) (hx : byteB x = true) (r : Int) (hr : idxOf (nums_ s) x = r) :
    Calls Try.prog 88 #[.slice (some ⟨w.heap.size, 0, none⟩) n cap, .int .u8 x] ((w.alloc (.cells (bytesRow s cap) 5 fr)).drew) fun e w' => e = .returned (.int .i64 r) ∧ Drawn0 ((w.alloc (.cells (bytesRow s cap) 5 fr)).drew) w' := by
  have hl : (nums_ s).length = n := by simp [nums_, hn]
  have h := bytesRow_C w s hs cap fr
  have hb : (nums_ s).all byteB = true := by
    rw [List.all_eq_true]
    intro y hy
    simp only [nums_, List.mem_map] at hy
    obtain ⟨b, -, rfl⟩ := hy
    have := b.toNat_lt
    simp [byteB]
    omega
  have h2 := bytes_IndexByte.calls (some ⟨w.heap.size, 0, none⟩) cap (nums_ s) x r _ h (by omega) (by unfold bytes_IndexByte.f; rw [if_pos ⟨hb, hx⟩, hr])
  rwa [hl] at h2
theorem c_six {w : World} (cap : Nat) (hc : 6 ≤ cap) (fr : Nat × Nat) (x : Int) (hx : byteB x = true) :
    Calls Try.prog 88 #[.slice (some ⟨w.heap.size, 0, none⟩) 6 cap, .int .u8 x] ((w.alloc (.cells (bytesRow (⟨#[40, 91, 123]⟩ ++ ⟨#[41, 93, 125]⟩) cap) 5 fr)).drew) fun e w' => e = .returned (.int .i64 (idxOf [40, 91, 123, 41, 93, 125] x)) ∧ Drawn0 ((w.alloc (.cells (bytesRow (⟨#[40, 91, 123]⟩ ++ ⟨#[41, 93, 125]⟩) cap) 5 fr)).drew) w' := by
  have e : (⟨#[40, 91, 123]⟩ ++ ⟨#[41, 93, 125]⟩ : ByteArray) = ⟨#[40, 91, 123, 41, 93, 125]⟩ := by decide
  rw [e]
  exact c_conv ⟨#[40, 91, 123, 41, 93, 125]⟩ (by decide) 6 cap rfl hc fr x hx _ rfl
theorem c_opens {w : World} (cap : Nat) (hc : 3 ≤ cap) (fr : Nat × Nat) (x : Int) (hx : byteB x = true) (r : Int) (hr : opens x = r) :
    Calls Try.prog 88 #[.slice (some ⟨w.heap.size, 0, none⟩) 3 cap, .int .u8 x] ((w.alloc (.cells (bytesRow ⟨#[40, 91, 123]⟩ cap) 5 fr)).drew) fun e w' => e = .returned (.int .i64 r) ∧ Drawn0 ((w.alloc (.cells (bytesRow ⟨#[40, 91, 123]⟩ cap) 5 fr)).drew) w' :=
  c_conv ⟨#[40, 91, 123]⟩ (by decide) 3 cap rfl hc fr x hx r hr
theorem c_closes {w : World} (cap : Nat) (hc : 3 ≤ cap) (fr : Nat × Nat) (x : Int) (hx : byteB x = true) (r : Int) (hr : closes x = r) :
    Calls Try.prog 88 #[.slice (some ⟨w.heap.size, 0, none⟩) 3 cap, .int .u8 x] ((w.alloc (.cells (bytesRow ⟨#[41, 93, 125]⟩ cap) 5 fr)).drew) fun e w' => e = .returned (.int .i64 r) ∧ Drawn0 ((w.alloc (.cells (bytesRow ⟨#[41, 93, 125]⟩ cap) 5 fr)).drew) w' :=
  c_conv ⟨#[41, 93, 125]⟩ (by decide) 3 cap rfl hc fr x hx r hr
def deepFrom (l : List Int) (o c : Int) (d : Int) (i : Nat) : Option Nat := deepF l o c (l.length - i) d i
theorem deepF_more (l : List Int) (o c : Int) : ∀ (f f' : Nat) (d : Int) (i : Nat), l.length - i ≤ f → l.length - i ≤ f' → deepF l o c f d i = deepF l o c f' d i
  | 0, 0, _, _, _, _ => rfl
  | 0, f' + 1, d, i, h, _ => by
    simp only [deepF]
    rw [if_neg (by omega)]
  | f + 1, 0, d, i, _, h => by
    simp only [deepF]
    rw [if_neg (by omega)]
  | f + 1, f' + 1, d, i, h, h' => by
    simp only [deepF]
    by_cases hc : i < l.length
    · rw [if_pos hc, if_pos hc]
      simp only [fun d => deepF_more l o c f f' d (i + 1) (by omega) (by omega)]
    · rw [if_neg hc, if_neg hc]
def stepF (x o c d : Int) : Int := if x = o then d + 1 else if x = c then d - 1 else d
def stepB (x o c d : Int) : Int := if x = o then d - 1 else if x = c then d + 1 else d
theorem deepFrom_eq (l : List Int) (o c d : Int) {i : Nat} (h : i < l.length) : deepFrom l o c d i = if stepF (l.getD i 0) o c d = 0 then some i else deepFrom l o c (stepF (l.getD i 0) o c d) (i + 1) := by
  unfold deepFrom
  obtain ⟨f, hf⟩ : ∃ f, l.length - i = f + 1 := ⟨l.length - i - 1, by omega⟩
  rw [hf]
  simp only [deepF]
  rw [if_pos h]
  simp only [fun d => deepF_more l o c f (l.length - (i + 1)) d (i + 1) (by omega) (by omega)]
  rfl
theorem deepFrom_end (l : List Int) (o c d : Int) {i : Nat} (h : ¬ i < l.length) : deepFrom l o c d i = none := by
  unfold deepFrom
  rw [show l.length - i = 0 by omega]
  rfl
def deepTo (l : List Int) (o c : Int) : Nat → Int → Option Nat
  | 0, _ => none
  | q + 1, d => if stepB (l.getD q 0) o c d = 0 then some q else deepTo l o c q (stepB (l.getD q 0) o c d)
theorem deepTo_eq (l : List Int) (o c : Int) : ∀ (i : Nat) (d : Int), deepB l o c i d = deepTo l o c (i + 1) d
  | 0, d => rfl
  | i + 1, d => by
    simp only [deepB, deepTo]
    rw [deepTo_eq l o c i]
    rfl
theorem pair_fwd {l : List Int} {i k : Nat} {ch : Int} (hb : bracketIn ((l.take (fin l i)).drop i) = some k) (hc : l.getD (i + k) 0 = ch) (ho : 0 ≤ opens ch) : pair l i = deepFrom l ch (if ch = 40 then 41 else ch + 2) 0 (i + k) := by
  unfold pair
  rw [hb]
  simp only [Option.bind_some, hc]
  rw [if_pos ho]
  exact deepF_more _ _ _ _ _ _ _ (by omega) (by omega)
theorem pair_bwd {l : List Int} {i k : Nat} {ch : Int} (hb : bracketIn ((l.take (fin l i)).drop i) = some k) (hc : l.getD (i + k) 0 = ch) (ho : ¬ 0 ≤ opens ch) : pair l i = deepTo l (if ch = 41 then 40 else ch - 2) ch (i + k + 1) 0 := by
  unfold pair
  rw [hb]
  simp only [Option.bind_some, hc]
  rw [if_neg ho]
  exact deepTo_eq _ _ _ _ _
theorem six_cases {ch : Int} (h : isBracket ch = true) : ch = 40 ∨ ch = 91 ∨ ch = 123 ∨ ch = 41 ∨ ch = 93 ∨ ch = 125 := by simpa [isBracket] using h
theorem six_yes {ch : Int} (h : isBracket ch = true) : 0 ≤ idxOf [40, 91, 123, 41, 93, 125] ch ∧ byteB ch = true := by
  simp only [isBracket, decide_eq_true_eq] at h
  rcases h with rfl | rfl | rfl | rfl | rfl | rfl <;> decide
theorem six_no {ch : Int} (h : isBracket ch = false) : idxOf [40, 91, 123, 41, 93, 125] ch = -1 := by
  simp only [isBracket, decide_eq_false_iff_not, not_or] at h
  obtain ⟨h1, h2, h3, h4, h5, h6⟩ := h
  simp [idxOf, Ne.symm h1, Ne.symm h2, Ne.symm h3, Ne.symm h4, Ne.symm h5, Ne.symm h6]
theorem bracketIn_step {l : List Int} {k : Nat} (hk : k < l.length) : bracketIn (l.drop k) = if isBracket (l.getD k 0) = true then some 0 else (bracketIn (l.drop (k + 1))).map (· + 1) := by
  rw [List.drop_eq_getElem_cons hk]
  simp [bracketIn, List.getD_eq_getElem?_getD, List.getElem?_eq_getElem hk]
theorem bracketIn_end {l : List Int} {k : Nat} (hk : l.length ≤ k) : bracketIn (l.drop k) = none := by
  rw [List.drop_eq_nil_of_le hk]; rfl

set_option maxHeartbeats 3000000 in
set_option maxRecDepth 100000 in
theorem pair_no (hW : Wk w g A c l i n op key A2 c2 a cn) (o : Option Gl) (h : ((pair l i).map incl) = o) (hil : ¬ i < l.length) :
    Calls Try.prog 75 #[.pointer (some ⟨g, 0, none⟩)] w fun e w' => e = endG o ∧ Below w.heap.size w w' := by
  have HO := Aside0.mk h
  clear h
  have HW0 := Aside0.mk hW
  have hg := Aside0.mk hW.lt
  have hcap := hW.sl.cap
  have hsok := Aside0.mk hW.sl.ok
  have ho := fin_le (begins_le hW.beg)
  have b1 : (0 : Int) ≤ (i : Int) := by omega
  have b2 : (i : Int) ≤ (fin l i : Int) := by omega
  have b3 : (fin l i : Int) ≤ (c : Int) := by omega
  have hfi : fin l i = i := by omega
  have hseg : (l.take (fin l i)).drop i = [] := by rw [hfi, List.drop_eq_nil_of_le (by rw [List.length_take]; omega)]
  obtain rfl : none = o := by rw [← HO.out, pair, hseg]; rfl
  clear hseg
  have b4 : fin l i - i = 0 := by omega
  have b5 : (i : Int) ≤ (c : Int) := by omega
  have b6 : (i : Int) ≤ (i : Int) := Int.le_refl _
  by_cases hci : c = i
  · subst hci
    have HS := Aside0.mk (St.begin_ hW)
    have hn1 := hW.n1
    have hn2 := hW.n2
    have hi := begins_le hW.beg
    have hsz := hW.sl.ok.size
    clear hW
    obtain ⟨f0, f1, f2, f3, f4, f5, f6, _, _, _, _, _⟩ := HS.out.wk
    go_enter Try.func75, Try.ntmps75
    go_wp2_with fail
    refine (brackets_calls).mono ?_
    rintro e wx ⟨rfl, rfl⟩
    go_wp2_with fail
    go_region_held3 (fun w' => w'.cell? ⟨g, 0, none⟩ = some (.slice A l.length c) ∧ w'.cell? ⟨g, 1, none⟩ = some (.int .i64 (c : Int))) (first | exact ⟨HS.out.wk.f0, HS.out.wk.f1⟩ | exact ⟨(HS.out.two (below_drew (Below.refl _ _))).wk.f0, (HS.out.two (below_drew (Below.refl _ _))).wk.f1⟩ | exact ⟨(Wk.laid HS.out hg.out HW0.out _ _ _).wk.f0, (Wk.laid HS.out hg.out HW0.out _ _ _).wk.f1⟩)
      (first | (go_at_call 47; refine (c_end (HS.out.two (by first | exact Below.refl _ _ | exact below_drew (Below.refl _ _) | exact pw_below_drewN (Below.refl _ _) _)).wk.sl hi).mono ?_; rintro e w11 ⟨rfl, hd⟩; have HT := Aside0.mk (HS.out.step (by first | exact Below.refl _ _ | exact below_drew (Below.refl _ _) | exact pw_below_drewN (Below.refl _ _) _) hd.below); clear hd HS; have HS := HT; clear HT))
    go_wp2_with fail
    go_loopw [35, 5, 6, 7] (fun v35 v5 v6 v7 wr => v35 = .int .i64 0 ∧ v5 = .int .i64 (-1) ∧ Aside0 (Below w.heap.size w wr)) (fun _ _ _ _ _ => 0)
    case atStart => exact ⟨rfl, rfl, ⟨HS.out.bel⟩⟩
    case round =>
      obtain ⟨rfl, rfl, HB⟩ := hrel
      go_wp2_with (first | (go_at_call 92; refine (must_ok _).mono ?_; rintro e wm ⟨rfl, rfl⟩) | (go_at_call 92; refine (must_no _).mono ?_; rintro e wm ⟨rfl, rfl⟩))
      exact ⟨rfl, rfl, HB.out⟩
  · skip
    have HS := Aside0.mk (St.begin_ hW)
    have hn1 := hW.n1
    have hn2 := hW.n2
    have hi := begins_le hW.beg
    have hsz := hW.sl.ok.size
    clear hW
    obtain ⟨f0, f1, f2, f3, f4, f5, f6, _, _, _, _, _⟩ := HS.out.wk
    go_enter Try.func75, Try.ntmps75
    go_wp2_with fail
    refine (brackets_calls).mono ?_
    rintro e wx ⟨rfl, rfl⟩
    go_wp2_with fail
    go_region_held3 (fun w' => w'.cell? ⟨g, 0, none⟩ = some (.slice A l.length c) ∧ w'.cell? ⟨g, 1, none⟩ = some (.int .i64 (i : Int))) (first | exact ⟨HS.out.wk.f0, HS.out.wk.f1⟩ | exact ⟨(HS.out.two (below_drew (Below.refl _ _))).wk.f0, (HS.out.two (below_drew (Below.refl _ _))).wk.f1⟩ | exact ⟨(Wk.laid HS.out hg.out HW0.out _ _ _).wk.f0, (Wk.laid HS.out hg.out HW0.out _ _ _).wk.f1⟩)
      (first | (go_at_call 47; refine (c_end (HS.out.two (by first | exact Below.refl _ _ | exact below_drew (Below.refl _ _) | exact pw_below_drewN (Below.refl _ _) _)).wk.sl hi).mono ?_; rintro e w12 ⟨rfl, hd⟩; have HT := Aside0.mk (HS.out.step (by first | exact Below.refl _ _ | exact below_drew (Below.refl _ _) | exact pw_below_drewN (Below.refl _ _) _) hd.below); clear hd HS; have HS := HT; clear HT))
    go_wp2_with fail
    go_loopw [35, 5, 6, 7] (fun v35 v5 v6 v7 wr => v35 = .int .i64 0 ∧ v5 = .int .i64 (-1) ∧ Aside0 (Below w.heap.size w wr)) (fun _ _ _ _ _ => 0)
    case atStart => exact ⟨rfl, rfl, ⟨HS.out.bel⟩⟩
    case round =>
      obtain ⟨rfl, rfl, HB⟩ := hrel
      go_wp2_with (first | (go_at_call 92; refine (must_ok _).mono ?_; rintro e wm ⟨rfl, rfl⟩) | (go_at_call 92; refine (must_no _).mono ?_; rintro e wm ⟨rfl, rfl⟩))
      exact ⟨rfl, rfl, HB.out⟩

set_option maxHeartbeats 3000000 in
set_option maxRecDepth 100000 in
theorem pair_yes (hW : Wk w g A c l i n op key A2 c2 a cn) (o : Option Gl) (h : ((pair l i).map incl) = o) (hil : i < l.length) :
    Calls Try.prog 75 #[.pointer (some ⟨g, 0, none⟩)] w fun e w' => e = endG o ∧ Below w.heap.size w w' := by
  have HO := Aside0.mk h
  clear h
  have HW0 := Aside0.mk hW
  have hg := Aside0.mk hW.lt
  have hcap := hW.sl.cap
  have hsok := Aside0.mk hW.sl.ok
  have ho := fin_le (begins_le hW.beg)
  have b1 : (0 : Int) ≤ (i : Int) := by omega
  have b2 : (i : Int) ≤ (fin l i : Int) := by omega
  have b3 : (fin l i : Int) ≤ (c : Int) := by omega
  have hci : ¬ c = i := by omega
  have HS := Aside0.mk (St.begin_ hW)
  have hn1 := hW.n1
  have hn2 := hW.n2
  have hi := begins_le hW.beg
  have hsz := hW.sl.ok.size
  clear hW
  obtain ⟨f0, f1, f2, f3, f4, f5, f6, _, _, _, _, _⟩ := HS.out.wk
  go_enter Try.func75, Try.ntmps75
  go_wp2_with fail
  refine (brackets_calls).mono ?_
  rintro e wx ⟨rfl, rfl⟩
  go_wp2_with fail
  go_region_held3 (fun w' => w'.cell? ⟨g, 0, none⟩ = some (.slice A l.length c) ∧ w'.cell? ⟨g, 1, none⟩ = some (.int .i64 (i : Int))) (first | exact ⟨HS.out.wk.f0, HS.out.wk.f1⟩ | exact ⟨(HS.out.two (below_drew (Below.refl _ _))).wk.f0, (HS.out.two (below_drew (Below.refl _ _))).wk.f1⟩ | exact ⟨(Wk.laid HS.out hg.out HW0.out _ _ _).wk.f0, (Wk.laid HS.out hg.out HW0.out _ _ _).wk.f1⟩)
    (first | (go_at_call 47; refine (c_end (HS.out.two (by first | exact Below.refl _ _ | exact below_drew (Below.refl _ _) | exact pw_below_drewN (Below.refl _ _) _)).wk.sl hi).mono ?_; rintro e w24 ⟨rfl, hd⟩; have HT := Aside0.mk (HS.out.step (by first | exact Below.refl _ _ | exact below_drew (Below.refl _ _) | exact pw_below_drewN (Below.refl _ _) _) hd.below); clear hd HS; have HS := HT; clear HT))
  obtain ⟨b0, o0, rfl, -⟩ := HS.out.wk.sl.at_ hil
  simp only [Option.map_some, Addr.add_lit]
  go_wp2_with fail
  have hcv := fun w s => run_bytes_of_string (P := Try.prog) w 9 23 5 s Try.underlying9 Try.underlying23 Try.underlying5
  go_loopw [35, 5, 6, 7] (fun v35 v5 v6 v7 wr => ∃ (k : Nat), v35 = .int .i64 k ∧ v5 = .int .i64 (-1) ∧ k ≤ fin l i - i ∧ Aside0 ((bracketIn (((l.take (fin l i)).drop i).drop k)).map (· + k) = bracketIn ((l.take (fin l i)).drop i)) ∧ Aside0 (St w wr w.heap.size (Wk wr g (some ⟨b0, o0, none⟩) c l i n op key A2 c2 a cn))) (fun v35 _ _ _ _ => fin l i - i - (intOf v35).toNat)
  case atStart => exact ⟨0, rfl, rfl, by omega, ⟨by simp⟩, HS⟩
  case round =>
    clear f0 f1 f2 f3 f4 f5 f6 HS
    obtain ⟨k, rfl, rfl, hk, HL, HS⟩ := hrel
    obtain ⟨f0, f1, f2, f3, f4, f5, f6, _, _, _, _, _⟩ := HS.out.wk
    by_cases h1 : k < fin l i - i
    · skip
      have t1 : decide ((k : Int) < ((fin l i - i : Nat) : Int)) = true := decide_eq_true (by omega)
      have t1' : decide (k < (fin l i - i : Nat)) = true := decide_eq_true (by omega)
      obtain ⟨b1, o1, e1, hcell⟩ := HS.out.wk.sl.at_ (j := i + k) (by omega)
      cases e1
      rw [← Nat.add_assoc] at hcell
      have hseg : ((l.take (fin l i)).drop i).length = fin l i - i := by rw [List.length_drop, List.length_take]; omega
      have hget : ((l.take (fin l i)).drop i).getD k 0 = l.getD (i + k) 0 := by
        simp only [List.getD_eq_getElem?_getD, List.getElem?_drop, List.getElem?_take]
        rw [if_pos (by omega)]
      have hst := Aside0.mk (bracketIn_step (l := (l.take (fin l i)).drop i) (k := k) (by omega))
      rw [hget] at hst
      clear hseg hget
      have hbb : byteB (l.getD (i + k) 0) = true := by simp only [byteB, Bool.and_eq_true, decide_eq_true_eq]; exact hsok.out.at_ (by omega)
      obtain ⟨ch, hch⟩ : ∃ ch, ch = l.getD (i + k) 0 := ⟨_, rfl⟩
      rw [← hch] at hcell hst hbb
      have HCH := Aside0.mk hch
      clear hch
      by_cases hbr : isBracket ch = true
      · have h6 := (six_yes hbr).1
        have h6' : decide (0 ≤ idxOf [40, 91, 123, 41, 93, 125] ch) = true := decide_eq_true h6
        have h6'' : decide (idxOf [40, 91, 123, 41, 93, 125] ch ≥ 0) = true := decide_eq_true h6
        go_wp2_with fail
        refine (c_six _ (grownCap_ge _ _ _ _) _ ch hbb).mono ?_
        rintro e w13 ⟨rfl, hd⟩
        have HT := Aside0.mk (HS.out.step (below_drew (below_alloc (Below.refl _ _) _)) hd.below)
        clear hd f0 f1 f2 f3 f4 f5 f6 HS
        have HS := HT
        clear HT
        obtain ⟨f0, f1, f2, f3, f4, f5, f6, _, _, _, _, _⟩ := HS.out.wk
        go_wp2_with fail
        refine (must_ok _).mono ?_
        rintro e wm ⟨rfl, rfl⟩
        have HB := Aside0.mk (HL.out.symm.trans (congrArg (Option.map (· + k)) (hst.out.trans (if_pos hbr))))
        clear HL hst h6 h6' h6'' t1 t1'
        rcases six_cases hbr with rfl | rfl | rfl | rfl | rfl | rfl
        · skip
          obtain ⟨b3, o3, e3, hcell⟩ := HS.out.wk.sl.at_ (j := i + k) (by omega)
          cases e3
          rw [← HCH.out] at hcell
          have q0 := fun o : Obj => (HS.out.two (below_alloc (Below.refl _ _) o)).wk.f0
          have q1 := fun o : Obj => (HS.out.two (below_alloc (Below.refl _ _) o)).wk.f1
          have q2 := fun o : Obj => pw_cell_below (below_alloc (Below.refl _ _) o) hcell
          have q0' := fun o : Obj => (HS.out.two (below_drew (below_alloc (Below.refl _ _) o))).wk.f0
          have q1' := fun o : Obj => (HS.out.two (below_drew (below_alloc (Below.refl _ _) o))).wk.f1
          have q2' := fun o : Obj => pw_cell_below (below_drew (below_alloc (Below.refl _ _) o)) hcell
          go_wp2_with fail
          refine (c_opens _ (grownCap_ge _ _ _ _) _ 40 (by decide) 0 rfl).mono ?_
          rintro e w14 ⟨rfl, hd⟩
          have HT := Aside0.mk (HS.out.step (below_drew (below_alloc (Below.refl _ _) _)) hd.below)
          clear hd f0 f1 f2 f3 f4 f5 f6 HS
          have HS := HT
          clear HT
          obtain ⟨f0, f1, f2, f3, f4, f5, f6, _, _, _, _, _⟩ := HS.out.wk
          go_wp2_with fail
          have HP : Aside0 (pair l i = deepFrom l 40 41 0 (i + k)) := ⟨pair_fwd (ch := 40) (k := k) (HB.out.trans (by simp)) HCH.out.symm (by decide)⟩
          go_loopw [8, 11] (fun v8 v11 wq => ∃ (q : Nat) (d : Int), v8 = .int .i64 q ∧ v11 = .int .i64 d ∧ q ≤ l.length ∧ -(q : Int) ≤ d ∧ d ≤ q ∧ Aside0 (deepFrom l 40 41 d q = deepFrom l 40 41 0 (i + k)) ∧ Aside0 (St w wq w.heap.size (Wk wq g (some ⟨b0, o0, none⟩) c l i n op key A2 c2 a cn))) (fun v8 _ _ => l.length - (intOf v8).toNat)
          case atStart => exact ⟨i + k, 0, by go_num, rfl, by omega, by omega, by omega, ⟨rfl⟩, HS⟩
          case round =>
            clear f0 f1 f2 f3 f4 f5 f6 HS hcell q0 q1 q2 q0' q1' q2'
            obtain ⟨q, d, rfl, rfl, hq, hd1, hd2, HL, HS⟩ := hrel
            obtain ⟨f0, f1, f2, f3, f4, f5, f6, _, _, _, _, _⟩ := HS.out.wk
            by_cases h1 : q < l.length
            · have HE := Aside0.mk (HL.out.symm.trans (deepFrom_eq l 40 41 d h1))
              clear HL
              have t1 : decide ((q : Int) < (l.length : Int)) = true := decide_eq_true (by omega)
              have t1' : decide (q < l.length) = true := decide_eq_true (by omega)
              obtain ⟨b6, o6, e6, hcell⟩ := HS.out.wk.sl.at_ h1
              cases e6
              obtain ⟨x, hx⟩ : ∃ x, x = l.getD q 0 := ⟨_, rfl⟩
              rw [← hx] at hcell HE
              clear hx
              by_cases hxo : x = 40
              · subst hxo
                have HE2 : Aside0 (deepFrom l 40 41 0 (i + k) = if d + 1 = 0 then some q else deepFrom l 40 41 (d + 1) (q + 1)) := ⟨by rw [HE.out, stepF, if_pos rfl]; try rfl⟩
                clear HE

                by_cases hz : d + 1 = 0
                · have z1 : (d + 1 == 0) = true := beq_iff_eq.2 hz
                  have z2 : decide (d + 1 = 0) = true := decide_eq_true hz
                  obtain ⟨r0, r1, r2, z⟩ := HS.out.res.cell
                  have z0 := z 0
                  have z1 := z 1
                  have z2 := z 2
                  clear z
                  go_wp2_with fail
                  exact goal_postG HS.out rfl rfl (by rw [← HO.out, HP.out, HE2.out, if_pos hz]; rfl)
                · have z1 : (d + 1 == 0) = false := beq_eq_false_iff_ne.2 hz
                  have z2 : decide (d + 1 = 0) = false := decide_eq_false hz
                  go_wp2_with fail
                  go_roundw
                  case rel => exact ⟨q + 1, d + 1, by go_num, by go_num, by omega, by omega, by omega, ⟨by rw [HE2.out, if_neg hz]⟩, HS⟩
                  case measure => simp [intOf]; omega
              · by_cases hxc : x = 41
                · subst hxc
                  have HE2 : Aside0 (deepFrom l 40 41 0 (i + k) = if d - 1 = 0 then some q else deepFrom l 40 41 (d - 1) (q + 1)) := ⟨by rw [HE.out, stepF, if_neg hxo, if_pos rfl]; try rfl⟩
                  clear HE

                  by_cases hz : d - 1 = 0
                  · have z1 : (d - 1 == 0) = true := beq_iff_eq.2 hz
                    have z2 : decide (d - 1 = 0) = true := decide_eq_true hz
                    obtain ⟨r0, r1, r2, z⟩ := HS.out.res.cell
                    have z0 := z 0
                    have z1 := z 1
                    have z2 := z 2
                    clear z
                    go_wp2_with fail
                    exact goal_postG HS.out rfl rfl (by rw [← HO.out, HP.out, HE2.out, if_pos hz]; rfl)
                  · have z1 : (d - 1 == 0) = false := beq_eq_false_iff_ne.2 hz
                    have z2 : decide (d - 1 = 0) = false := decide_eq_false hz
                    go_wp2_with fail
                    go_roundw
                    case rel => exact ⟨q + 1, d - 1, by go_num, by go_num, by omega, by omega, by omega, ⟨by rw [HE2.out, if_neg hz]⟩, HS⟩
                    case measure => simp [intOf]; omega
                · skip
                  have HE2 : Aside0 (deepFrom l 40 41 0 (i + k) = if d = 0 then some q else deepFrom l 40 41 (d) (q + 1)) := ⟨by rw [HE.out, stepF, if_neg hxo, if_neg hxc]; try rfl⟩
                  clear HE
                  have g1 : (x == 40) = false := beq_eq_false_iff_ne.2 hxo
                  have g2 : (x == 41) = false := beq_eq_false_iff_ne.2 hxc
                  have g1' : (x == (((⟨#[40, 91, 123]⟩ : ByteArray)[0]'(by decide)).toNat : Int)) = false := g1
                  have g2' : (x == (((⟨#[41, 93, 125]⟩ : ByteArray)[0]'(by decide)).toNat : Int)) = false := g2
                  by_cases hz : d = 0
                  · have z1 : (d == 0) = true := beq_iff_eq.2 hz
                    have z2 : decide (d = 0) = true := decide_eq_true hz
                    obtain ⟨r0, r1, r2, z⟩ := HS.out.res.cell
                    have z0 := z 0
                    have z1 := z 1
                    have z2 := z 2
                    clear z
                    go_wp2_with fail
                    exact goal_postG HS.out rfl rfl (by rw [← HO.out, HP.out, HE2.out, if_pos hz]; rfl)
                  · have z1 : (d == 0) = false := beq_eq_false_iff_ne.2 hz
                    have z2 : decide (d = 0) = false := decide_eq_false hz
                    go_wp2_with fail
                    go_roundw
                    case rel => exact ⟨q + 1, d, by go_num, by go_num, by omega, by omega, by omega, ⟨by rw [HE2.out, if_neg hz]⟩, HS⟩
                    case measure => simp [intOf]; omega
            · skip
              have t1 : decide ((q : Int) < (l.length : Int)) = false := decide_eq_false (by omega)
              have t1' : decide (q < l.length) = false := decide_eq_false (by omega)
              obtain rfl : none = o := by rw [← HO.out, HP.out, ← HL.out, deepFrom_end l _ _ _ h1]; rfl
              go_wp2_with fail
              exact ⟨rfl, rfl, HS.out.bel⟩
        · skip
          obtain ⟨b3, o3, e3, hcell⟩ := HS.out.wk.sl.at_ (j := i + k) (by omega)
          cases e3
          rw [← HCH.out] at hcell
          have q0 := fun o : Obj => (HS.out.two (below_alloc (Below.refl _ _) o)).wk.f0
          have q1 := fun o : Obj => (HS.out.two (below_alloc (Below.refl _ _) o)).wk.f1
          have q2 := fun o : Obj => pw_cell_below (below_alloc (Below.refl _ _) o) hcell
          have q0' := fun o : Obj => (HS.out.two (below_drew (below_alloc (Below.refl _ _) o))).wk.f0
          have q1' := fun o : Obj => (HS.out.two (below_drew (below_alloc (Below.refl _ _) o))).wk.f1
          have q2' := fun o : Obj => pw_cell_below (below_drew (below_alloc (Below.refl _ _) o)) hcell
          go_wp2_with fail
          refine (c_opens _ (grownCap_ge _ _ _ _) _ 91 (by decide) 1 rfl).mono ?_
          rintro e w15 ⟨rfl, hd⟩
          have HT := Aside0.mk (HS.out.step (below_drew (below_alloc (Below.refl _ _) _)) hd.below)
          clear hd f0 f1 f2 f3 f4 f5 f6 HS
          have HS := HT
          clear HT
          obtain ⟨f0, f1, f2, f3, f4, f5, f6, _, _, _, _, _⟩ := HS.out.wk
          go_wp2_with fail
          have HP : Aside0 (pair l i = deepFrom l 91 93 0 (i + k)) := ⟨pair_fwd (ch := 91) (k := k) (HB.out.trans (by simp)) HCH.out.symm (by decide)⟩
          go_loopw [8, 11] (fun v8 v11 wq => ∃ (q : Nat) (d : Int), v8 = .int .i64 q ∧ v11 = .int .i64 d ∧ q ≤ l.length ∧ -(q : Int) ≤ d ∧ d ≤ q ∧ Aside0 (deepFrom l 91 93 d q = deepFrom l 91 93 0 (i + k)) ∧ Aside0 (St w wq w.heap.size (Wk wq g (some ⟨b0, o0, none⟩) c l i n op key A2 c2 a cn))) (fun v8 _ _ => l.length - (intOf v8).toNat)
          case atStart => exact ⟨i + k, 0, by go_num, rfl, by omega, by omega, by omega, ⟨rfl⟩, HS⟩
          case round =>
            clear f0 f1 f2 f3 f4 f5 f6 HS hcell q0 q1 q2 q0' q1' q2'
            obtain ⟨q, d, rfl, rfl, hq, hd1, hd2, HL, HS⟩ := hrel
            obtain ⟨f0, f1, f2, f3, f4, f5, f6, _, _, _, _, _⟩ := HS.out.wk
            by_cases h1 : q < l.length
            · have HE := Aside0.mk (HL.out.symm.trans (deepFrom_eq l 91 93 d h1))
              clear HL
              have t1 : decide ((q : Int) < (l.length : Int)) = true := decide_eq_true (by omega)
              have t1' : decide (q < l.length) = true := decide_eq_true (by omega)
              obtain ⟨b6, o6, e6, hcell⟩ := HS.out.wk.sl.at_ h1
              cases e6
              obtain ⟨x, hx⟩ : ∃ x, x = l.getD q 0 := ⟨_, rfl⟩
              rw [← hx] at hcell HE
              clear hx
              by_cases hxo : x = 91
              · subst hxo
                have HE2 : Aside0 (deepFrom l 91 93 0 (i + k) = if d + 1 = 0 then some q else deepFrom l 91 93 (d + 1) (q + 1)) := ⟨by rw [HE.out, stepF, if_pos rfl]; try rfl⟩
                clear HE

                by_cases hz : d + 1 = 0
                · have z1 : (d + 1 == 0) = true := beq_iff_eq.2 hz
                  have z2 : decide (d + 1 = 0) = true := decide_eq_true hz
                  obtain ⟨r0, r1, r2, z⟩ := HS.out.res.cell
                  have z0 := z 0
                  have z1 := z 1
                  have z2 := z 2
                  clear z
                  go_wp2_with fail
                  exact goal_postG HS.out rfl rfl (by rw [← HO.out, HP.out, HE2.out, if_pos hz]; rfl)
                · have z1 : (d + 1 == 0) = false := beq_eq_false_iff_ne.2 hz
                  have z2 : decide (d + 1 = 0) = false := decide_eq_false hz
                  go_wp2_with fail
                  go_roundw
                  case rel => exact ⟨q + 1, d + 1, by go_num, by go_num, by omega, by omega, by omega, ⟨by rw [HE2.out, if_neg hz]⟩, HS⟩
                  case measure => simp [intOf]; omega
              · by_cases hxc : x = 93
                · subst hxc
                  have HE2 : Aside0 (deepFrom l 91 93 0 (i + k) = if d - 1 = 0 then some q else deepFrom l 91 93 (d - 1) (q + 1)) := ⟨by rw [HE.out, stepF, if_neg hxo, if_pos rfl]; try rfl⟩
                  clear HE

                  by_cases hz : d - 1 = 0
                  · have z1 : (d - 1 == 0) = true := beq_iff_eq.2 hz
                    have z2 : decide (d - 1 = 0) = true := decide_eq_true hz
                    obtain ⟨r0, r1, r2, z⟩ := HS.out.res.cell
                    have z0 := z 0
                    have z1 := z 1
                    have z2 := z 2
                    clear z
                    go_wp2_with fail
                    exact goal_postG HS.out rfl rfl (by rw [← HO.out, HP.out, HE2.out, if_pos hz]; rfl)
                  · have z1 : (d - 1 == 0) = false := beq_eq_false_iff_ne.2 hz
                    have z2 : decide (d - 1 = 0) = false := decide_eq_false hz
                    go_wp2_with fail
                    go_roundw
                    case rel => exact ⟨q + 1, d - 1, by go_num, by go_num, by omega, by omega, by omega, ⟨by rw [HE2.out, if_neg hz]⟩, HS⟩
                    case measure => simp [intOf]; omega
                · skip
                  have HE2 : Aside0 (deepFrom l 91 93 0 (i + k) = if d = 0 then some q else deepFrom l 91 93 (d) (q + 1)) := ⟨by rw [HE.out, stepF, if_neg hxo, if_neg hxc]; try rfl⟩
                  clear HE
                  have g1 : (x == 91) = false := beq_eq_false_iff_ne.2 hxo
                  have g2 : (x == 93) = false := beq_eq_false_iff_ne.2 hxc
                  have g1' : (x == (((⟨#[40, 91, 123]⟩ : ByteArray)[1]'(by decide)).toNat : Int)) = false := g1
                  have g2' : (x == (((⟨#[41, 93, 125]⟩ : ByteArray)[1]'(by decide)).toNat : Int)) = false := g2
                  by_cases hz : d = 0
                  · have z1 : (d == 0) = true := beq_iff_eq.2 hz
                    have z2 : decide (d = 0) = true := decide_eq_true hz
                    obtain ⟨r0, r1, r2, z⟩ := HS.out.res.cell
                    have z0 := z 0
                    have z1 := z 1
                    have z2 := z 2
                    clear z
                    go_wp2_with fail
                    exact goal_postG HS.out rfl rfl (by rw [← HO.out, HP.out, HE2.out, if_pos hz]; rfl)
                  · have z1 : (d == 0) = false := beq_eq_false_iff_ne.2 hz
                    have z2 : decide (d = 0) = false := decide_eq_false hz
                    go_wp2_with fail
                    go_roundw
                    case rel => exact ⟨q + 1, d, by go_num, by go_num, by omega, by omega, by omega, ⟨by rw [HE2.out, if_neg hz]⟩, HS⟩
                    case measure => simp [intOf]; omega
            · skip
              have t1 : decide ((q : Int) < (l.length : Int)) = false := decide_eq_false (by omega)
              have t1' : decide (q < l.length) = false := decide_eq_false (by omega)
              obtain rfl : none = o := by rw [← HO.out, HP.out, ← HL.out, deepFrom_end l _ _ _ h1]; rfl
              go_wp2_with fail
              exact ⟨rfl, rfl, HS.out.bel⟩
        · skip
          obtain ⟨b3, o3, e3, hcell⟩ := HS.out.wk.sl.at_ (j := i + k) (by omega)
          cases e3
          rw [← HCH.out] at hcell
          have q0 := fun o : Obj => (HS.out.two (below_alloc (Below.refl _ _) o)).wk.f0
          have q1 := fun o : Obj => (HS.out.two (below_alloc (Below.refl _ _) o)).wk.f1
          have q2 := fun o : Obj => pw_cell_below (below_alloc (Below.refl _ _) o) hcell
          have q0' := fun o : Obj => (HS.out.two (below_drew (below_alloc (Below.refl _ _) o))).wk.f0
          have q1' := fun o : Obj => (HS.out.two (below_drew (below_alloc (Below.refl _ _) o))).wk.f1
          have q2' := fun o : Obj => pw_cell_below (below_drew (below_alloc (Below.refl _ _) o)) hcell
          go_wp2_with fail
          refine (c_opens _ (grownCap_ge _ _ _ _) _ 123 (by decide) 2 rfl).mono ?_
          rintro e w16 ⟨rfl, hd⟩
          have HT := Aside0.mk (HS.out.step (below_drew (below_alloc (Below.refl _ _) _)) hd.below)
          clear hd f0 f1 f2 f3 f4 f5 f6 HS
          have HS := HT
          clear HT
          obtain ⟨f0, f1, f2, f3, f4, f5, f6, _, _, _, _, _⟩ := HS.out.wk
          go_wp2_with fail
          have HP : Aside0 (pair l i = deepFrom l 123 125 0 (i + k)) := ⟨pair_fwd (ch := 123) (k := k) (HB.out.trans (by simp)) HCH.out.symm (by decide)⟩
          go_loopw [8, 11] (fun v8 v11 wq => ∃ (q : Nat) (d : Int), v8 = .int .i64 q ∧ v11 = .int .i64 d ∧ q ≤ l.length ∧ -(q : Int) ≤ d ∧ d ≤ q ∧ Aside0 (deepFrom l 123 125 d q = deepFrom l 123 125 0 (i + k)) ∧ Aside0 (St w wq w.heap.size (Wk wq g (some ⟨b0, o0, none⟩) c l i n op key A2 c2 a cn))) (fun v8 _ _ => l.length - (intOf v8).toNat)
          case atStart => exact ⟨i + k, 0, by go_num, rfl, by omega, by omega, by omega, ⟨rfl⟩, HS⟩
          case round =>
            clear f0 f1 f2 f3 f4 f5 f6 HS hcell q0 q1 q2 q0' q1' q2'
            obtain ⟨q, d, rfl, rfl, hq, hd1, hd2, HL, HS⟩ := hrel
            obtain ⟨f0, f1, f2, f3, f4, f5, f6, _, _, _, _, _⟩ := HS.out.wk
            by_cases h1 : q < l.length
            · have HE := Aside0.mk (HL.out.symm.trans (deepFrom_eq l 123 125 d h1))
              clear HL
              have t1 : decide ((q : Int) < (l.length : Int)) = true := decide_eq_true (by omega)
              have t1' : decide (q < l.length) = true := decide_eq_true (by omega)
              obtain ⟨b6, o6, e6, hcell⟩ := HS.out.wk.sl.at_ h1
              cases e6
              obtain ⟨x, hx⟩ : ∃ x, x = l.getD q 0 := ⟨_, rfl⟩
              rw [← hx] at hcell HE
              clear hx
              by_cases hxo : x = 123
              · subst hxo
                have HE2 : Aside0 (deepFrom l 123 125 0 (i + k) = if d + 1 = 0 then some q else deepFrom l 123 125 (d + 1) (q + 1)) := ⟨by rw [HE.out, stepF, if_pos rfl]; try rfl⟩
                clear HE

                by_cases hz : d + 1 = 0
                · have z1 : (d + 1 == 0) = true := beq_iff_eq.2 hz
                  have z2 : decide (d + 1 = 0) = true := decide_eq_true hz
                  obtain ⟨r0, r1, r2, z⟩ := HS.out.res.cell
                  have z0 := z 0
                  have z1 := z 1
                  have z2 := z 2
                  clear z
                  go_wp2_with fail
                  exact goal_postG HS.out rfl rfl (by rw [← HO.out, HP.out, HE2.out, if_pos hz]; rfl)
                · have z1 : (d + 1 == 0) = false := beq_eq_false_iff_ne.2 hz
                  have z2 : decide (d + 1 = 0) = false := decide_eq_false hz
                  go_wp2_with fail
                  go_roundw
                  case rel => exact ⟨q + 1, d + 1, by go_num, by go_num, by omega, by omega, by omega, ⟨by rw [HE2.out, if_neg hz]⟩, HS⟩
                  case measure => simp [intOf]; omega
              · by_cases hxc : x = 125
                · subst hxc
                  have HE2 : Aside0 (deepFrom l 123 125 0 (i + k) = if d - 1 = 0 then some q else deepFrom l 123 125 (d - 1) (q + 1)) := ⟨by rw [HE.out, stepF, if_neg hxo, if_pos rfl]; try rfl⟩
                  clear HE

                  by_cases hz : d - 1 = 0
                  · have z1 : (d - 1 == 0) = true := beq_iff_eq.2 hz
                    have z2 : decide (d - 1 = 0) = true := decide_eq_true hz
                    obtain ⟨r0, r1, r2, z⟩ := HS.out.res.cell
                    have z0 := z 0
                    have z1 := z 1
                    have z2 := z 2
                    clear z
                    go_wp2_with fail
                    exact goal_postG HS.out rfl rfl (by rw [← HO.out, HP.out, HE2.out, if_pos hz]; rfl)
                  · have z1 : (d - 1 == 0) = false := beq_eq_false_iff_ne.2 hz
                    have z2 : decide (d - 1 = 0) = false := decide_eq_false hz
                    go_wp2_with fail
                    go_roundw
                    case rel => exact ⟨q + 1, d - 1, by go_num, by go_num, by omega, by omega, by omega, ⟨by rw [HE2.out, if_neg hz]⟩, HS⟩
                    case measure => simp [intOf]; omega
                · skip
                  have HE2 : Aside0 (deepFrom l 123 125 0 (i + k) = if d = 0 then some q else deepFrom l 123 125 (d) (q + 1)) := ⟨by rw [HE.out, stepF, if_neg hxo, if_neg hxc]; try rfl⟩
                  clear HE
                  have g1 : (x == 123) = false := beq_eq_false_iff_ne.2 hxo
                  have g2 : (x == 125) = false := beq_eq_false_iff_ne.2 hxc
                  have g1' : (x == (((⟨#[40, 91, 123]⟩ : ByteArray)[2]'(by decide)).toNat : Int)) = false := g1
                  have g2' : (x == (((⟨#[41, 93, 125]⟩ : ByteArray)[2]'(by decide)).toNat : Int)) = false := g2
                  by_cases hz : d = 0
                  · have z1 : (d == 0) = true := beq_iff_eq.2 hz
                    have z2 : decide (d = 0) = true := decide_eq_true hz
                    obtain ⟨r0, r1, r2, z⟩ := HS.out.res.cell
                    have z0 := z 0
                    have z1 := z 1
                    have z2 := z 2
                    clear z
                    go_wp2_with fail
                    exact goal_postG HS.out rfl rfl (by rw [← HO.out, HP.out, HE2.out, if_pos hz]; rfl)
                  · have z1 : (d == 0) = false := beq_eq_false_iff_ne.2 hz
                    have z2 : decide (d = 0) = false := decide_eq_false hz
                    go_wp2_with fail
                    go_roundw
                    case rel => exact ⟨q + 1, d, by go_num, by go_num, by omega, by omega, by omega, ⟨by rw [HE2.out, if_neg hz]⟩, HS⟩
                    case measure => simp [intOf]; omega
            · skip
              have t1 : decide ((q : Int) < (l.length : Int)) = false := decide_eq_false (by omega)
              have t1' : decide (q < l.length) = false := decide_eq_false (by omega)
              obtain rfl : none = o := by rw [← HO.out, HP.out, ← HL.out, deepFrom_end l _ _ _ h1]; rfl
              go_wp2_with fail
              exact ⟨rfl, rfl, HS.out.bel⟩
        · skip
          obtain ⟨b3, o3, e3, hcell⟩ := HS.out.wk.sl.at_ (j := i + k) (by omega)
          cases e3
          rw [← HCH.out] at hcell
          have q0 := fun o : Obj => (HS.out.two (below_alloc (Below.refl _ _) o)).wk.f0
          have q1 := fun o : Obj => (HS.out.two (below_alloc (Below.refl _ _) o)).wk.f1
          have q2 := fun o : Obj => pw_cell_below (below_alloc (Below.refl _ _) o) hcell
          have q0' := fun o : Obj => (HS.out.two (below_drew (below_alloc (Below.refl _ _) o))).wk.f0
          have q1' := fun o : Obj => (HS.out.two (below_drew (below_alloc (Below.refl _ _) o))).wk.f1
          have q2' := fun o : Obj => pw_cell_below (below_drew (below_alloc (Below.refl _ _) o)) hcell
          go_wp2_with fail
          refine (c_opens _ (grownCap_ge _ _ _ _) _ 41 (by decide) (-1) rfl).mono ?_
          rintro e w17 ⟨rfl, hd⟩
          have HT := Aside0.mk (HS.out.step (below_drew (below_alloc (Below.refl _ _) _)) hd.below)
          clear hd f0 f1 f2 f3 f4 f5 f6 HS
          have HS := HT
          clear HT
          obtain ⟨f0, f1, f2, f3, f4, f5, f6, _, _, _, _, _⟩ := HS.out.wk
          clear hcell
          obtain ⟨b4, o4, e4, hcell⟩ := HS.out.wk.sl.at_ (j := i + k) (by omega)
          cases e4
          rw [← HCH.out] at hcell
          have q0 := fun o : Obj => (HS.out.two (below_alloc (Below.refl _ _) o)).wk.f0
          have q1 := fun o : Obj => (HS.out.two (below_alloc (Below.refl _ _) o)).wk.f1
          have q2 := fun o : Obj => pw_cell_below (below_alloc (Below.refl _ _) o) hcell
          have q0' := fun o : Obj => (HS.out.two (below_drew (below_alloc (Below.refl _ _) o))).wk.f0
          have q1' := fun o : Obj => (HS.out.two (below_drew (below_alloc (Below.refl _ _) o))).wk.f1
          have q2' := fun o : Obj => pw_cell_below (below_drew (below_alloc (Below.refl _ _) o)) hcell
          go_wp2_with fail
          refine (c_closes _ (grownCap_ge _ _ _ _) _ 41 (by decide) 0 rfl).mono ?_
          rintro e w18 ⟨rfl, hd⟩
          have HT := Aside0.mk (HS.out.step (below_drew (below_alloc (Below.refl _ _) _)) hd.below)
          clear hd f0 f1 f2 f3 f4 f5 f6 HS
          have HS := HT
          clear HT
          obtain ⟨f0, f1, f2, f3, f4, f5, f6, _, _, _, _, _⟩ := HS.out.wk
          go_wp2_with fail
          have HP : Aside0 (pair l i = deepTo l 40 41 (i + k + 1) 0) := ⟨pair_bwd (ch := 41) (k := k) (HB.out.trans (by simp)) HCH.out.symm (by decide)⟩
          go_loopw [8, 11] (fun v8 v11 wq => ∃ (q : Nat) (d : Int), v8 = .int .i64 ((q : Int) - 1) ∧ v11 = .int .i64 d ∧ q ≤ l.length ∧ -((l.length : Int) - q) ≤ d ∧ d ≤ (l.length : Int) - q ∧ Aside0 (deepTo l 40 41 q d = deepTo l 40 41 (i + k + 1) 0) ∧ Aside0 (St w wq w.heap.size (Wk wq g (some ⟨b0, o0, none⟩) c l i n op key A2 c2 a cn))) (fun v8 _ _ => (intOf v8 + 1).toNat)
          case atStart => exact ⟨i + k + 1, 0, by go_num, rfl, by omega, by omega, by omega, ⟨rfl⟩, HS⟩
          case round =>
            clear f0 f1 f2 f3 f4 f5 f6 HS hcell q0 q1 q2 q0' q1' q2'
            obtain ⟨q, d, rfl, rfl, hq, hd1, hd2, HL, HS⟩ := hrel
            obtain ⟨f0, f1, f2, f3, f4, f5, f6, _, _, _, _, _⟩ := HS.out.wk
            rcases q with _ | q
            · obtain rfl : none = o := by rw [← HO.out, HP.out, ← HL.out]; rfl
              rw [show ((0 : Nat) : Int) - 1 = -1 from rfl]
              go_wp2_with fail
              exact ⟨rfl, rfl, HS.out.bel⟩
            · have HE := Aside0.mk (HL.out.symm.trans (show deepTo l 40 41 (q + 1) d = if stepB (l.getD q 0) 40 41 d = 0 then some q else deepTo l 40 41 q (stepB (l.getD q 0) 40 41 d) from rfl))
              clear HL
              have h1 : q < l.length := by omega
              have e1 : ((q + 1 : Nat) : Int) - 1 = (q : Int) := by omega
              rw [e1]
              clear e1
              have t1 : decide ((q : Int) < (l.length : Int)) = true := decide_eq_true (by omega)
              have t1' : decide (q < l.length) = true := decide_eq_true (by omega)
              obtain ⟨b6, o6, e6, hcell⟩ := HS.out.wk.sl.at_ h1
              cases e6
              obtain ⟨x, hx⟩ : ∃ x, x = l.getD q 0 := ⟨_, rfl⟩
              rw [← hx] at hcell HE
              clear hx
              by_cases hxo : x = 40
              · subst hxo
                have HE2 : Aside0 (deepTo l 40 41 (i + k + 1) 0 = if d + -1 = 0 then some q else deepTo l 40 41 q (d + -1)) := ⟨by rw [HE.out, stepB, if_pos rfl]; try rfl⟩
                clear HE

                by_cases hz : d + -1 = 0
                · have z1 : (d + -1 == 0) = true := beq_iff_eq.2 hz
                  have z2 : decide (d + -1 = 0) = true := decide_eq_true hz
                  obtain ⟨r0, r1, r2, z⟩ := HS.out.res.cell
                  have z0 := z 0
                  have z1 := z 1
                  have z2 := z 2
                  clear z
                  go_wp2_with fail
                  exact goal_postG HS.out rfl rfl (by rw [← HO.out, HP.out, HE2.out, if_pos hz]; rfl)
                · have z1 : (d + -1 == 0) = false := beq_eq_false_iff_ne.2 hz
                  have z2 : decide (d + -1 = 0) = false := decide_eq_false hz
                  go_wp2_with fail
                  go_roundw
                  case rel => exact ⟨q, d + -1, by go_num, by go_num, by omega, by omega, by omega, ⟨by rw [HE2.out, if_neg hz]⟩, HS⟩
                  case measure => simp [intOf]; omega
              · by_cases hxc : x = 41
                · subst hxc
                  have HE2 : Aside0 (deepTo l 40 41 (i + k + 1) 0 = if d - -1 = 0 then some q else deepTo l 40 41 q (d - -1)) := ⟨by rw [HE.out, stepB, if_neg hxo, if_pos rfl]; try rfl⟩
                  clear HE

                  by_cases hz : d - -1 = 0
                  · have z1 : (d - -1 == 0) = true := beq_iff_eq.2 hz
                    have z2 : decide (d - -1 = 0) = true := decide_eq_true hz
                    obtain ⟨r0, r1, r2, z⟩ := HS.out.res.cell
                    have z0 := z 0
                    have z1 := z 1
                    have z2 := z 2
                    clear z
                    go_wp2_with fail
                    exact goal_postG HS.out rfl rfl (by rw [← HO.out, HP.out, HE2.out, if_pos hz]; rfl)
                  · have z1 : (d - -1 == 0) = false := beq_eq_false_iff_ne.2 hz
                    have z2 : decide (d - -1 = 0) = false := decide_eq_false hz
                    go_wp2_with fail
                    go_roundw
                    case rel => exact ⟨q, d - -1, by go_num, by go_num, by omega, by omega, by omega, ⟨by rw [HE2.out, if_neg hz]⟩, HS⟩
                    case measure => simp [intOf]; omega
                · skip
                  have HE2 : Aside0 (deepTo l 40 41 (i + k + 1) 0 = if d = 0 then some q else deepTo l 40 41 q (d)) := ⟨by rw [HE.out, stepB, if_neg hxo, if_neg hxc]; try rfl⟩
                  clear HE
                  have g1 : (x == 40) = false := beq_eq_false_iff_ne.2 hxo
                  have g2 : (x == 41) = false := beq_eq_false_iff_ne.2 hxc
                  have g1' : (x == (((⟨#[40, 91, 123]⟩ : ByteArray)[0]'(by decide)).toNat : Int)) = false := g1
                  have g2' : (x == (((⟨#[41, 93, 125]⟩ : ByteArray)[0]'(by decide)).toNat : Int)) = false := g2
                  by_cases hz : d = 0
                  · have z1 : (d == 0) = true := beq_iff_eq.2 hz
                    have z2 : decide (d = 0) = true := decide_eq_true hz
                    obtain ⟨r0, r1, r2, z⟩ := HS.out.res.cell
                    have z0 := z 0
                    have z1 := z 1
                    have z2 := z 2
                    clear z
                    go_wp2_with fail
                    exact goal_postG HS.out rfl rfl (by rw [← HO.out, HP.out, HE2.out, if_pos hz]; rfl)
                  · have z1 : (d == 0) = false := beq_eq_false_iff_ne.2 hz
                    have z2 : decide (d = 0) = false := decide_eq_false hz
                    go_wp2_with fail
                    go_roundw
                    case rel => exact ⟨q, d, by go_num, by go_num, by omega, by omega, by omega, ⟨by rw [HE2.out, if_neg hz]⟩, HS⟩
                    case measure => simp [intOf]; omega
        · skip
          obtain ⟨b3, o3, e3, hcell⟩ := HS.out.wk.sl.at_ (j := i + k) (by omega)
          cases e3
          rw [← HCH.out] at hcell
          have q0 := fun o : Obj => (HS.out.two (below_alloc (Below.refl _ _) o)).wk.f0
          have q1 := fun o : Obj => (HS.out.two (below_alloc (Below.refl _ _) o)).wk.f1
          have q2 := fun o : Obj => pw_cell_below (below_alloc (Below.refl _ _) o) hcell
          have q0' := fun o : Obj => (HS.out.two (below_drew (below_alloc (Below.refl _ _) o))).wk.f0
          have q1' := fun o : Obj => (HS.out.two (below_drew (below_alloc (Below.refl _ _) o))).wk.f1
          have q2' := fun o : Obj => pw_cell_below (below_drew (below_alloc (Below.refl _ _) o)) hcell
          go_wp2_with fail
          refine (c_opens _ (grownCap_ge _ _ _ _) _ 93 (by decide) (-1) rfl).mono ?_
          rintro e w19 ⟨rfl, hd⟩
          have HT := Aside0.mk (HS.out.step (below_drew (below_alloc (Below.refl _ _) _)) hd.below)
          clear hd f0 f1 f2 f3 f4 f5 f6 HS
          have HS := HT
          clear HT
          obtain ⟨f0, f1, f2, f3, f4, f5, f6, _, _, _, _, _⟩ := HS.out.wk
          clear hcell
          obtain ⟨b4, o4, e4, hcell⟩ := HS.out.wk.sl.at_ (j := i + k) (by omega)
          cases e4
          rw [← HCH.out] at hcell
          have q0 := fun o : Obj => (HS.out.two (below_alloc (Below.refl _ _) o)).wk.f0
          have q1 := fun o : Obj => (HS.out.two (below_alloc (Below.refl _ _) o)).wk.f1
          have q2 := fun o : Obj => pw_cell_below (below_alloc (Below.refl _ _) o) hcell
          have q0' := fun o : Obj => (HS.out.two (below_drew (below_alloc (Below.refl _ _) o))).wk.f0
          have q1' := fun o : Obj => (HS.out.two (below_drew (below_alloc (Below.refl _ _) o))).wk.f1
          have q2' := fun o : Obj => pw_cell_below (below_drew (below_alloc (Below.refl _ _) o)) hcell
          go_wp2_with fail
          refine (c_closes _ (grownCap_ge _ _ _ _) _ 93 (by decide) 1 rfl).mono ?_
          rintro e w20 ⟨rfl, hd⟩
          have HT := Aside0.mk (HS.out.step (below_drew (below_alloc (Below.refl _ _) _)) hd.below)
          clear hd f0 f1 f2 f3 f4 f5 f6 HS
          have HS := HT
          clear HT
          obtain ⟨f0, f1, f2, f3, f4, f5, f6, _, _, _, _, _⟩ := HS.out.wk
          go_wp2_with fail
          have HP : Aside0 (pair l i = deepTo l 91 93 (i + k + 1) 0) := ⟨pair_bwd (ch := 93) (k := k) (HB.out.trans (by simp)) HCH.out.symm (by decide)⟩
          go_loopw [8, 11] (fun v8 v11 wq => ∃ (q : Nat) (d : Int), v8 = .int .i64 ((q : Int) - 1) ∧ v11 = .int .i64 d ∧ q ≤ l.length ∧ -((l.length : Int) - q) ≤ d ∧ d ≤ (l.length : Int) - q ∧ Aside0 (deepTo l 91 93 q d = deepTo l 91 93 (i + k + 1) 0) ∧ Aside0 (St w wq w.heap.size (Wk wq g (some ⟨b0, o0, none⟩) c l i n op key A2 c2 a cn))) (fun v8 _ _ => (intOf v8 + 1).toNat)
          case atStart => exact ⟨i + k + 1, 0, by go_num, rfl, by omega, by omega, by omega, ⟨rfl⟩, HS⟩
          case round =>
            clear f0 f1 f2 f3 f4 f5 f6 HS hcell q0 q1 q2 q0' q1' q2'
            obtain ⟨q, d, rfl, rfl, hq, hd1, hd2, HL, HS⟩ := hrel
            obtain ⟨f0, f1, f2, f3, f4, f5, f6, _, _, _, _, _⟩ := HS.out.wk
            rcases q with _ | q
            · obtain rfl : none = o := by rw [← HO.out, HP.out, ← HL.out]; rfl
              rw [show ((0 : Nat) : Int) - 1 = -1 from rfl]
              go_wp2_with fail
              exact ⟨rfl, rfl, HS.out.bel⟩
            · have HE := Aside0.mk (HL.out.symm.trans (show deepTo l 91 93 (q + 1) d = if stepB (l.getD q 0) 91 93 d = 0 then some q else deepTo l 91 93 q (stepB (l.getD q 0) 91 93 d) from rfl))
              clear HL
              have h1 : q < l.length := by omega
              have e1 : ((q + 1 : Nat) : Int) - 1 = (q : Int) := by omega
              rw [e1]
              clear e1
              have t1 : decide ((q : Int) < (l.length : Int)) = true := decide_eq_true (by omega)
              have t1' : decide (q < l.length) = true := decide_eq_true (by omega)
              obtain ⟨b6, o6, e6, hcell⟩ := HS.out.wk.sl.at_ h1
              cases e6
              obtain ⟨x, hx⟩ : ∃ x, x = l.getD q 0 := ⟨_, rfl⟩
              rw [← hx] at hcell HE
              clear hx
              by_cases hxo : x = 91
              · subst hxo
                have HE2 : Aside0 (deepTo l 91 93 (i + k + 1) 0 = if d + -1 = 0 then some q else deepTo l 91 93 q (d + -1)) := ⟨by rw [HE.out, stepB, if_pos rfl]; try rfl⟩
                clear HE

                by_cases hz : d + -1 = 0
                · have z1 : (d + -1 == 0) = true := beq_iff_eq.2 hz
                  have z2 : decide (d + -1 = 0) = true := decide_eq_true hz
                  obtain ⟨r0, r1, r2, z⟩ := HS.out.res.cell
                  have z0 := z 0
                  have z1 := z 1
                  have z2 := z 2
                  clear z
                  go_wp2_with fail
                  exact goal_postG HS.out rfl rfl (by rw [← HO.out, HP.out, HE2.out, if_pos hz]; rfl)
                · have z1 : (d + -1 == 0) = false := beq_eq_false_iff_ne.2 hz
                  have z2 : decide (d + -1 = 0) = false := decide_eq_false hz
                  go_wp2_with fail
                  go_roundw
                  case rel => exact ⟨q, d + -1, by go_num, by go_num, by omega, by omega, by omega, ⟨by rw [HE2.out, if_neg hz]⟩, HS⟩
                  case measure => simp [intOf]; omega
              · by_cases hxc : x = 93
                · subst hxc
                  have HE2 : Aside0 (deepTo l 91 93 (i + k + 1) 0 = if d - -1 = 0 then some q else deepTo l 91 93 q (d - -1)) := ⟨by rw [HE.out, stepB, if_neg hxo, if_pos rfl]; try rfl⟩
                  clear HE

                  by_cases hz : d - -1 = 0
                  · have z1 : (d - -1 == 0) = true := beq_iff_eq.2 hz
                    have z2 : decide (d - -1 = 0) = true := decide_eq_true hz
                    obtain ⟨r0, r1, r2, z⟩ := HS.out.res.cell
                    have z0 := z 0
                    have z1 := z 1
                    have z2 := z 2
                    clear z
                    go_wp2_with fail
                    exact goal_postG HS.out rfl rfl (by rw [← HO.out, HP.out, HE2.out, if_pos hz]; rfl)
                  · have z1 : (d - -1 == 0) = false := beq_eq_false_iff_ne.2 hz
                    have z2 : decide (d - -1 = 0) = false := decide_eq_false hz
                    go_wp2_with fail
                    go_roundw
                    case rel => exact ⟨q, d - -1, by go_num, by go_num, by omega, by omega, by omega, ⟨by rw [HE2.out, if_neg hz]⟩, HS⟩
                    case measure => simp [intOf]; omega
                · skip
                  have HE2 : Aside0 (deepTo l 91 93 (i + k + 1) 0 = if d = 0 then some q else deepTo l 91 93 q (d)) := ⟨by rw [HE.out, stepB, if_neg hxo, if_neg hxc]; try rfl⟩
                  clear HE
                  have g1 : (x == 91) = false := beq_eq_false_iff_ne.2 hxo
                  have g2 : (x == 93) = false := beq_eq_false_iff_ne.2 hxc
                  have g1' : (x == (((⟨#[40, 91, 123]⟩ : ByteArray)[1]'(by decide)).toNat : Int)) = false := g1
                  have g2' : (x == (((⟨#[41, 93, 125]⟩ : ByteArray)[1]'(by decide)).toNat : Int)) = false := g2
                  by_cases hz : d = 0
                  · have z1 : (d == 0) = true := beq_iff_eq.2 hz
                    have z2 : decide (d = 0) = true := decide_eq_true hz
                    obtain ⟨r0, r1, r2, z⟩ := HS.out.res.cell
                    have z0 := z 0
                    have z1 := z 1
                    have z2 := z 2
                    clear z
                    go_wp2_with fail
                    exact goal_postG HS.out rfl rfl (by rw [← HO.out, HP.out, HE2.out, if_pos hz]; rfl)
                  · have z1 : (d == 0) = false := beq_eq_false_iff_ne.2 hz
                    have z2 : decide (d = 0) = false := decide_eq_false hz
                    go_wp2_with fail
                    go_roundw
                    case rel => exact ⟨q, d, by go_num, by go_num, by omega, by omega, by omega, ⟨by rw [HE2.out, if_neg hz]⟩, HS⟩
                    case measure => simp [intOf]; omega
        · skip
          obtain ⟨b3, o3, e3, hcell⟩ := HS.out.wk.sl.at_ (j := i + k) (by omega)
          cases e3
          rw [← HCH.out] at hcell
          have q0 := fun o : Obj => (HS.out.two (below_alloc (Below.refl _ _) o)).wk.f0
          have q1 := fun o : Obj => (HS.out.two (below_alloc (Below.refl _ _) o)).wk.f1
          have q2 := fun o : Obj => pw_cell_below (below_alloc (Below.refl _ _) o) hcell
          have q0' := fun o : Obj => (HS.out.two (below_drew (below_alloc (Below.refl _ _) o))).wk.f0
          have q1' := fun o : Obj => (HS.out.two (below_drew (below_alloc (Below.refl _ _) o))).wk.f1
          have q2' := fun o : Obj => pw_cell_below (below_drew (below_alloc (Below.refl _ _) o)) hcell
          go_wp2_with fail
          refine (c_opens _ (grownCap_ge _ _ _ _) _ 125 (by decide) (-1) rfl).mono ?_
          rintro e w21 ⟨rfl, hd⟩
          have HT := Aside0.mk (HS.out.step (below_drew (below_alloc (Below.refl _ _) _)) hd.below)
          clear hd f0 f1 f2 f3 f4 f5 f6 HS
          have HS := HT
          clear HT
          obtain ⟨f0, f1, f2, f3, f4, f5, f6, _, _, _, _, _⟩ := HS.out.wk
          clear hcell
          obtain ⟨b4, o4, e4, hcell⟩ := HS.out.wk.sl.at_ (j := i + k) (by omega)
          cases e4
          rw [← HCH.out] at hcell
          have q0 := fun o : Obj => (HS.out.two (below_alloc (Below.refl _ _) o)).wk.f0
          have q1 := fun o : Obj => (HS.out.two (below_alloc (Below.refl _ _) o)).wk.f1
          have q2 := fun o : Obj => pw_cell_below (below_alloc (Below.refl _ _) o) hcell
          have q0' := fun o : Obj => (HS.out.two (below_drew (below_alloc (Below.refl _ _) o))).wk.f0
          have q1' := fun o : Obj => (HS.out.two (below_drew (below_alloc (Below.refl _ _) o))).wk.f1
          have q2' := fun o : Obj => pw_cell_below (below_drew (below_alloc (Below.refl _ _) o)) hcell
          go_wp2_with fail
          refine (c_closes _ (grownCap_ge _ _ _ _) _ 125 (by decide) 2 rfl).mono ?_
          rintro e w22 ⟨rfl, hd⟩
          have HT := Aside0.mk (HS.out.step (below_drew (below_alloc (Below.refl _ _) _)) hd.below)
          clear hd f0 f1 f2 f3 f4 f5 f6 HS
          have HS := HT
          clear HT
          obtain ⟨f0, f1, f2, f3, f4, f5, f6, _, _, _, _, _⟩ := HS.out.wk
          go_wp2_with fail
          have HP : Aside0 (pair l i = deepTo l 123 125 (i + k + 1) 0) := ⟨pair_bwd (ch := 125) (k := k) (HB.out.trans (by simp)) HCH.out.symm (by decide)⟩
          go_loopw [8, 11] (fun v8 v11 wq => ∃ (q : Nat) (d : Int), v8 = .int .i64 ((q : Int) - 1) ∧ v11 = .int .i64 d ∧ q ≤ l.length ∧ -((l.length : Int) - q) ≤ d ∧ d ≤ (l.length : Int) - q ∧ Aside0 (deepTo l 123 125 q d = deepTo l 123 125 (i + k + 1) 0) ∧ Aside0 (St w wq w.heap.size (Wk wq g (some ⟨b0, o0, none⟩) c l i n op key A2 c2 a cn))) (fun v8 _ _ => (intOf v8 + 1).toNat)
          case atStart => exact ⟨i + k + 1, 0, by go_num, rfl, by omega, by omega, by omega, ⟨rfl⟩, HS⟩
          case round =>
            clear f0 f1 f2 f3 f4 f5 f6 HS hcell q0 q1 q2 q0' q1' q2'
            obtain ⟨q, d, rfl, rfl, hq, hd1, hd2, HL, HS⟩ := hrel
            obtain ⟨f0, f1, f2, f3, f4, f5, f6, _, _, _, _, _⟩ := HS.out.wk
            rcases q with _ | q
            · obtain rfl : none = o := by rw [← HO.out, HP.out, ← HL.out]; rfl
              rw [show ((0 : Nat) : Int) - 1 = -1 from rfl]
              go_wp2_with fail
              exact ⟨rfl, rfl, HS.out.bel⟩
            · have HE := Aside0.mk (HL.out.symm.trans (show deepTo l 123 125 (q + 1) d = if stepB (l.getD q 0) 123 125 d = 0 then some q else deepTo l 123 125 q (stepB (l.getD q 0) 123 125 d) from rfl))
              clear HL
              have h1 : q < l.length := by omega
              have e1 : ((q + 1 : Nat) : Int) - 1 = (q : Int) := by omega
              rw [e1]
              clear e1
              have t1 : decide ((q : Int) < (l.length : Int)) = true := decide_eq_true (by omega)
              have t1' : decide (q < l.length) = true := decide_eq_true (by omega)
              obtain ⟨b6, o6, e6, hcell⟩ := HS.out.wk.sl.at_ h1
              cases e6
              obtain ⟨x, hx⟩ : ∃ x, x = l.getD q 0 := ⟨_, rfl⟩
              rw [← hx] at hcell HE
              clear hx
              by_cases hxo : x = 123
              · subst hxo
                have HE2 : Aside0 (deepTo l 123 125 (i + k + 1) 0 = if d + -1 = 0 then some q else deepTo l 123 125 q (d + -1)) := ⟨by rw [HE.out, stepB, if_pos rfl]; try rfl⟩
                clear HE

                by_cases hz : d + -1 = 0
                · have z1 : (d + -1 == 0) = true := beq_iff_eq.2 hz
                  have z2 : decide (d + -1 = 0) = true := decide_eq_true hz
                  obtain ⟨r0, r1, r2, z⟩ := HS.out.res.cell
                  have z0 := z 0
                  have z1 := z 1
                  have z2 := z 2
                  clear z
                  go_wp2_with fail
                  exact goal_postG HS.out rfl rfl (by rw [← HO.out, HP.out, HE2.out, if_pos hz]; rfl)
                · have z1 : (d + -1 == 0) = false := beq_eq_false_iff_ne.2 hz
                  have z2 : decide (d + -1 = 0) = false := decide_eq_false hz
                  go_wp2_with fail
                  go_roundw
                  case rel => exact ⟨q, d + -1, by go_num, by go_num, by omega, by omega, by omega, ⟨by rw [HE2.out, if_neg hz]⟩, HS⟩
                  case measure => simp [intOf]; omega
              · by_cases hxc : x = 125
                · subst hxc
                  have HE2 : Aside0 (deepTo l 123 125 (i + k + 1) 0 = if d - -1 = 0 then some q else deepTo l 123 125 q (d - -1)) := ⟨by rw [HE.out, stepB, if_neg hxo, if_pos rfl]; try rfl⟩
                  clear HE

                  by_cases hz : d - -1 = 0
                  · have z1 : (d - -1 == 0) = true := beq_iff_eq.2 hz
                    have z2 : decide (d - -1 = 0) = true := decide_eq_true hz
                    obtain ⟨r0, r1, r2, z⟩ := HS.out.res.cell
                    have z0 := z 0
                    have z1 := z 1
                    have z2 := z 2
                    clear z
                    go_wp2_with fail
                    exact goal_postG HS.out rfl rfl (by rw [← HO.out, HP.out, HE2.out, if_pos hz]; rfl)
                  · have z1 : (d - -1 == 0) = false := beq_eq_false_iff_ne.2 hz
                    have z2 : decide (d - -1 = 0) = false := decide_eq_false hz
                    go_wp2_with fail
                    go_roundw
                    case rel => exact ⟨q, d - -1, by go_num, by go_num, by omega, by omega, by omega, ⟨by rw [HE2.out, if_neg hz]⟩, HS⟩
                    case measure => simp [intOf]; omega
                · skip
                  have HE2 : Aside0 (deepTo l 123 125 (i + k + 1) 0 = if d = 0 then some q else deepTo l 123 125 q (d)) := ⟨by rw [HE.out, stepB, if_neg hxo, if_neg hxc]; try rfl⟩
                  clear HE
                  have g1 : (x == 123) = false := beq_eq_false_iff_ne.2 hxo
                  have g2 : (x == 125) = false := beq_eq_false_iff_ne.2 hxc
                  have g1' : (x == (((⟨#[40, 91, 123]⟩ : ByteArray)[2]'(by decide)).toNat : Int)) = false := g1
                  have g2' : (x == (((⟨#[41, 93, 125]⟩ : ByteArray)[2]'(by decide)).toNat : Int)) = false := g2
                  by_cases hz : d = 0
                  · have z1 : (d == 0) = true := beq_iff_eq.2 hz
                    have z2 : decide (d = 0) = true := decide_eq_true hz
                    obtain ⟨r0, r1, r2, z⟩ := HS.out.res.cell
                    have z0 := z 0
                    have z1 := z 1
                    have z2 := z 2
                    clear z
                    go_wp2_with fail
                    exact goal_postG HS.out rfl rfl (by rw [← HO.out, HP.out, HE2.out, if_pos hz]; rfl)
                  · have z1 : (d == 0) = false := beq_eq_false_iff_ne.2 hz
                    have z2 : decide (d = 0) = false := decide_eq_false hz
                    go_wp2_with fail
                    go_roundw
                    case rel => exact ⟨q, d, by go_num, by go_num, by omega, by omega, by omega, ⟨by rw [HE2.out, if_neg hz]⟩, HS⟩
                    case measure => simp [intOf]; omega
      · have h6 := six_no (Bool.eq_false_iff.2 hbr)
        go_wp2_with fail
        refine (c_six _ (grownCap_ge _ _ _ _) _ ch hbb).mono ?_
        rintro e w13 ⟨rfl, hd⟩
        have HT := Aside0.mk (HS.out.step (below_drew (below_alloc (Below.refl _ _) _)) hd.below)
        clear hd f0 f1 f2 f3 f4 f5 f6 HS
        have HS := HT
        clear HT
        obtain ⟨f0, f1, f2, f3, f4, f5, f6, _, _, _, _, _⟩ := HS.out.wk
        have h6' : decide (0 ≤ idxOf [40, 91, 123, 41, 93, 125] ch) = false := by rw [h6]; rfl
        have h6'' : decide (idxOf [40, 91, 123, 41, 93, 125] ch ≥ 0) = false := by rw [h6]; rfl
        have HB := Aside0.mk ((congrArg (Option.map (· + k)) (hst.out.trans (if_neg hbr))).symm.trans HL.out)
        clear HL hst h6
        go_wp2_with fail
        go_roundw
        case rel => exact ⟨k + 1, by go_num, rfl, by omega, ⟨by rw [← HB.out, Option.map_map]; congr 1; funext x; simp only [Function.comp]; omega⟩, HS⟩
        case measure => simp [intOf]; omega
    · skip
      have t1 : decide ((k : Int) < ((fin l i - i : Nat) : Int)) = false := decide_eq_false (by omega)
      have t1' : decide (k < (fin l i - i : Nat)) = false := decide_eq_false (by omega)
      obtain rfl : none = o := by rw [← HO.out, pair, ← HL.out, bracketIn_end (by rw [List.length_drop, List.length_take]; omega)]; rfl
      go_wp2_with (first | (go_at_call 92; refine (must_ok _).mono ?_; rintro e wm ⟨rfl, rfl⟩) | (go_at_call 92; refine (must_no _).mono ?_; rintro e wm ⟨rfl, rfl⟩))
      exact ⟨rfl, rfl, HS.out.bel⟩

theorem pair_calls (hW : Wk w g A c l i n op key A2 c2 a cn) (o : Option Gl) (h : ((pair l i).map incl) = o) : Calls Try.prog 75 #[.pointer (some ⟨g, 0, none⟩)] w fun e w' => e = endG o ∧ Below w.heap.size w w' := by
  by_cases hil : i < l.length
  · exact pair_yes hW o h hil
  · exact pair_no hW o h hil
end
end Go.Proofs.Ytiibjehnlphabaa

end

section
namespace Go.Proofs.Ytiibjehnlphabaa
open Go.RowKit Go.Proofs.YtiibjehnlphabaaW.PrintWords Go.Proofs.YtiibjehnlphabaaW.PrintMore Q
set_option linter.unusedVariables false
set_option linter.unusedSimpArgs false
section
variable {w : World} {g : Nat} {A : Option Addr} {c : Nat} {l : List Int} {i : Nat} {n : Nat} {op : Bool} {key : ByteArray} {A2 : Option Addr} {c2 : Nat} {a : List Int} {cn : Int}
set_option maxHeartbeats 400000 in
set_option maxRecDepth 100000 in
theorem tillBack_no (hW : Wk w g A c l i n op key A2 c2 a cn) (hx : behind l a n i = none) :
    Calls Try.prog 72 #[.pointer (some ⟨g, 0, none⟩)] w fun e w' => e = endG none ∧ Below w.heap.size w w' := by
  have hx' := Aside0.mk hx
  clear hx
  have HS := Aside0.mk (St.begin_ hW)
  have hn1 := hW.n1
  have hn2 := hW.n2
  have hi := begins_le hW.beg
  have hsz := hW.sl.ok.size
  clear hW
  obtain ⟨f0, f1, f2, f3, f4, f5, f6, _, _, _, _, _⟩ := HS.out.wk
  go_enter Try.func72, Try.ntmps72
  go_wp2_with fail
  have h0 : (fun w' => w'.cell? ⟨g, 0, none⟩ = some (.slice A l.length c)) ((w.alloc (.cells #[.int .i64 0, .bool false, .bool false] 25)).drew) := HS.out.wk.f0
  clear f0 f1 f2 f3 f4 f5 f6
  refine wp_region_held (S := fun w' => w'.cell? ⟨g, 0, none⟩ = some (.slice A l.length c)) (by kernel_rfl) ?_
  refine wpAnyH_take (i := 0) (v := ?v0) rfl (by kernel_rfl) (by kernel_rfl) (by kernel_rfl) (fun _ _ _ h => h) (Or.inl ⟨by rfl, ?hy0⟩) h0 ?rest0
  case hy0 =>
    intro w hSw
    (try dsimp only at hSw)
    go_simp
    all_goals with_reducible rfl
  simp only [Act.put, List.setIfInBounds_toArray, List.set_cons_zero, List.set_cons_succ]
  refine wpAnyH_take (i := 1) (v := ?v1) rfl (by kernel_rfl) (by kernel_rfl) (by kernel_rfl) (fun _ _ _ h => h) (Or.inl ⟨by rfl, ?hy1⟩) h0 ?rest1
  case hy1 =>
    intro w hSw
    (try dsimp only at hSw)
    go_simp
    all_goals with_reducible rfl
  simp only [Act.put, List.setIfInBounds_toArray, List.set_cons_zero, List.set_cons_succ]
  refine wpAnyH_take (i := 2) (v := ?v2) rfl (by kernel_rfl) (by kernel_rfl) (by kernel_rfl) (fun _ _ _ h => h) (Or.inl ⟨by rfl, ?hy2⟩) h0 ?rest2
  case hy2 =>
    intro w hSw
    (try dsimp only at hSw)
    go_simp
    all_goals with_reducible rfl
  simp only [Act.put, List.setIfInBounds_toArray, List.set_cons_zero, List.set_cons_succ]
  refine wpAnyH_take (i := 3) (v := ?v3) rfl (by kernel_rfl) (by kernel_rfl) (by kernel_rfl) (fun _ _ _ h => h) (Or.inl ⟨by rfl, ?hy3⟩) h0 ?rest3
  case hy3 =>
    intro w hSw
    (try dsimp only at hSw)
    go_simp
    all_goals with_reducible rfl
  simp only [Act.put, List.setIfInBounds_toArray, List.set_cons_zero, List.set_cons_succ]
  refine wpAnyH_take (i := 4) (v := ?v4) rfl (by kernel_rfl) (by kernel_rfl) (by kernel_rfl) (fun _ _ _ h => h) (Or.inl ⟨by rfl, ?hy4⟩) h0 ?rest4
  case hy4 =>
    intro w hSw
    (try dsimp only at hSw)
    go_simp
    all_goals with_reducible rfl
  simp only [Act.put, List.setIfInBounds_toArray, List.set_cons_zero, List.set_cons_succ]
  refine wpAnyH_ready (rs := [5]) (by kernel_rfl) (by simp) (AllReadyH.cons rfl (fun K hK => ?_) AllReadyH.nil)
  go_simp
  refine (behind_calls (HS.out.two (below_drew (Below.refl _ _))).wk none hx'.out).mono ?_
  rintro e w1 ⟨rfl, hd⟩
  have HT := HS.out.step (below_drew (Below.refl _ _)) hd
  simp only [endI]
  go_wp2_with fail
  exact ⟨rfl, rfl, HT.bel⟩

set_option maxHeartbeats 400000 in
set_option maxRecDepth 100000 in
theorem tail_no (hW : Wk w g A c l i n op key A2 c2 a cn) (hx : below l (n - 1) i = none) :
    Calls Try.prog 63 #[.pointer (some ⟨g, 0, none⟩)] w fun e w' => e = endG none ∧ Below w.heap.size w w' := by
  have hx' := Aside0.mk hx
  clear hx
  have HS := Aside0.mk (St.begin_ hW)
  have hn1 := hW.n1
  have hn2 := hW.n2
  have hi := begins_le hW.beg
  have hsz := hW.sl.ok.size
  clear hW
  obtain ⟨f0, f1, f2, f3, f4, f5, f6, _, _, _, _, _⟩ := HS.out.wk
  go_enter Try.func63, Try.ntmps63
  go_wp2_with fail
  have e1 : IntKind.i64.wrap ((n : Int) - 1) = ((n - 1 : Nat) : Int) := by rw [IntWalk.i64_in _ (by omega)]; omega
  have h0 : (fun w' => w'.cell? ⟨g, 0, none⟩ = some (.slice A l.length c) ∧ w'.cell? ⟨g, 2, none⟩ = some (.int .i64 (n : Int))) ((w.alloc (.cells #[.int .i64 0, .bool false, .bool false] 25)).drew) := ⟨HS.out.wk.f0, HS.out.wk.f2⟩
  clear f0 f1 f2 f3 f4 f5 f6
  refine wp_region_held (S := fun w' => w'.cell? ⟨g, 0, none⟩ = some (.slice A l.length c) ∧ w'.cell? ⟨g, 2, none⟩ = some (.int .i64 (n : Int))) (by kernel_rfl) ?_
  refine wpAnyH_take (i := 0) (v := ?v0) rfl (by kernel_rfl) (by kernel_rfl) (by kernel_rfl) (fun _ _ _ h => h) (Or.inl ⟨by rfl, ?hy0⟩) h0 ?rest0
  case hy0 =>
    intro w hSw
    (try dsimp only at hSw)
    go_simp
    all_goals with_reducible rfl
  simp only [Act.put, List.setIfInBounds_toArray, List.set_cons_zero, List.set_cons_succ]
  refine wpAnyH_take (i := 1) (v := ?v1) rfl (by kernel_rfl) (by kernel_rfl) (by kernel_rfl) (fun _ _ _ h => h) (Or.inl ⟨by rfl, ?hy1⟩) h0 ?rest1
  case hy1 =>
    intro w hSw
    (try dsimp only at hSw)
    go_simp
    all_goals with_reducible rfl
  simp only [Act.put, List.setIfInBounds_toArray, List.set_cons_zero, List.set_cons_succ]
  refine wpAnyH_take (i := 2) (v := ?v2) rfl (by kernel_rfl) (by kernel_rfl) (by kernel_rfl) (fun _ _ _ h => h) (Or.inl ⟨by rfl, ?hy2⟩) h0 ?rest2
  case hy2 =>
    intro w hSw
    (try dsimp only at hSw)
    go_simp
    all_goals with_reducible rfl
  simp only [Act.put, List.setIfInBounds_toArray, List.set_cons_zero, List.set_cons_succ]
  refine wpAnyH_take (i := 3) (v := ?v3) rfl (by kernel_rfl) (by kernel_rfl) (by kernel_rfl) (fun _ _ _ h => h) (Or.inl ⟨by rfl, ?hy3⟩) h0 ?rest3
  case hy3 =>
    intro w hSw
    (try dsimp only at hSw)
    go_simp
    all_goals with_reducible rfl
  simp only [Act.put, List.setIfInBounds_toArray, List.set_cons_zero, List.set_cons_succ]
  refine wpAnyH_take (i := 4) (v := ?v4) rfl (by kernel_rfl) (by kernel_rfl) (by kernel_rfl) (fun _ _ _ h => h) (Or.inl ⟨by rfl, ?hy4⟩) h0 ?rest4
  case hy4 =>
    intro w hSw
    (try dsimp only at hSw)
    go_simp
    all_goals with_reducible rfl
  simp only [Act.put, List.setIfInBounds_toArray, List.set_cons_zero, List.set_cons_succ]
  refine wpAnyH_take (i := 5) (v := ?v5) rfl (by kernel_rfl) (by kernel_rfl) (by kernel_rfl) (fun _ _ _ h => h) (Or.inl ⟨by rfl, ?hy5⟩) h0 ?rest5
  case hy5 =>
    intro w hSw
    (try dsimp only at hSw)
    go_simp
    all_goals with_reducible rfl
  simp only [Act.put, List.setIfInBounds_toArray, List.set_cons_zero, List.set_cons_succ]
  refine wpAnyH_take (i := 6) (v := ?v6) rfl (by kernel_rfl) (by kernel_rfl) (by kernel_rfl) (fun _ _ _ h => h) (Or.inl ⟨by rfl, ?hy6⟩) h0 ?rest6
  case hy6 =>
    intro w hSw
    (try dsimp only at hSw)
    go_simp
    all_goals with_reducible rfl
  simp only [Act.put, List.setIfInBounds_toArray, List.set_cons_zero, List.set_cons_succ]
  refine wpAnyH_take (i := 7) (v := ?v7) rfl (by kernel_rfl) (by kernel_rfl) (by kernel_rfl) (fun _ _ _ h => h) (Or.inl ⟨by rfl, ?hy7⟩) h0 ?rest7
  case hy7 =>
    intro w hSw
    (try dsimp only at hSw)
    go_simp
    all_goals with_reducible rfl
  simp only [Act.put, List.setIfInBounds_toArray, List.set_cons_zero, List.set_cons_succ]
  refine wpAnyH_take (i := 8) (v := ?v8) rfl (by kernel_rfl) (by kernel_rfl) (by kernel_rfl) (fun _ _ _ h => h) (Or.inl ⟨by rfl, ?hy8⟩) h0 ?rest8
  case hy8 =>
    intro w hSw
    (try dsimp only at hSw)
    go_simp
    all_goals with_reducible rfl
  simp only [Act.put, List.setIfInBounds_toArray, List.set_cons_zero, List.set_cons_succ]
  refine wpAnyH_take (i := 9) (v := ?v9) rfl (by kernel_rfl) (by kernel_rfl) (by kernel_rfl) (fun _ _ _ h => h) (Or.inl ⟨by rfl, ?hy9⟩) h0 ?rest9
  case hy9 =>
    intro w hSw
    (try dsimp only at hSw)
    go_simp
    all_goals with_reducible rfl
  simp only [Act.put, List.setIfInBounds_toArray, List.set_cons_zero, List.set_cons_succ]
  refine wpAnyH_take (i := 10) (v := ?v10) rfl (by kernel_rfl) (by kernel_rfl) (by kernel_rfl) (fun _ _ _ h => h) (Or.inl ⟨by rfl, ?hy10⟩) h0 ?rest10
  case hy10 =>
    intro w hSw
    (try dsimp only at hSw)
    go_simp
    all_goals with_reducible rfl
  simp only [Act.put, List.setIfInBounds_toArray, List.set_cons_zero, List.set_cons_succ]
  refine wpAnyH_take (i := 11) (v := ?v11) rfl (by kernel_rfl) (by kernel_rfl) (by kernel_rfl) (fun _ _ _ h => h) (Or.inl ⟨by rfl, ?hy11⟩) h0 ?rest11
  case hy11 =>
    intro w hSw
    (try dsimp only at hSw)
    go_simp
    all_goals with_reducible rfl
  simp only [Act.put, List.setIfInBounds_toArray, List.set_cons_zero, List.set_cons_succ]
  refine wpAnyH_take (i := 12) (v := ?v12) rfl (by kernel_rfl) (by kernel_rfl) (by kernel_rfl) (fun _ _ _ h => h) (Or.inl ⟨by rfl, ?hy12⟩) h0 ?rest12
  case hy12 =>
    intro w hSw
    (try dsimp only at hSw)
    go_simp
    all_goals with_reducible rfl
  simp only [Act.put, List.setIfInBounds_toArray, List.set_cons_zero, List.set_cons_succ]
  refine wpAnyH_take (i := 13) (v := ?v13) rfl (by kernel_rfl) (by kernel_rfl) (by kernel_rfl) (fun _ _ _ h => h) (Or.inl ⟨by rfl, ?hy13⟩) h0 ?rest13
  case hy13 =>
    intro w hSw
    (try dsimp only at hSw)
    go_simp
    all_goals with_reducible rfl
  simp only [Act.put, List.setIfInBounds_toArray, List.set_cons_zero, List.set_cons_succ]
  refine wpAnyH_ready (rs := [14]) (by kernel_rfl) (by simp) (AllReadyH.cons rfl (fun K hK => ?_) AllReadyH.nil)
  go_simp
  refine (below_calls (HS.out.two (below_drew (Below.refl _ _))).wk (n - 1) (by omega) none hx'.out).mono ?_
  rintro e w1 ⟨rfl, hd⟩
  have HT := HS.out.step (below_drew (Below.refl _ _)) hd
  simp only [endI]
  go_wp2_with fail
  exact ⟨rfl, rfl, HT.bel⟩

theorem behindN_le {l a : List Int} {q : Nat} : ∀ (f m j p : Nat), j ≤ l.length → behindN l a q f m j = some p → p ≤ l.length
  | 0, _, _, _, _, h => by cases h
  | f + 1, m, j, p, hj, h => by
    simp only [behindN] at h
    split at h
    · split at h
      · split at h
        · cases h; omega
        · exact behindN_le f _ _ p (by omega) h
      · exact behindN_le f _ _ p (by omega) h
    · cases h
theorem behind_le {l a : List Int} {m j p : Nat} (h : behind l a m j = some p) (hj : j ≤ l.length) : p ≤ l.length := by
  unfold behind at h
  split at h
  · exact behindN_le _ _ _ _ hj h
  · cases h
theorem below_le {l : List Int} : ∀ {m j p : Nat}, below l m j = some p → j ≤ l.length → p ≤ l.length
  | 0, j, p, h, hj => by
    simp only [below] at h
    cases h
    have := start_le l j
    omega
  | m + 1, j, p, h, hj => by
    simp only [below] at h
    split at h
    · exact below_le h (by omega)
    · cases h
theorem tail_calls (hW : Wk w g A c l i n op key A2 c2 a cn) (o : Option Gl) (h : ((below l (n - 1) i).map fun p => incl (rest l (fin l p))) = o) : Calls Try.prog 63 #[.pointer (some ⟨g, 0, none⟩)] w fun e w' => e = endG o ∧ Below w.heap.size w w' := by
  subst h
  cases hx : below l (n - 1) i with
  | none => exact tail_no hW hx
  | some p => exact tail_yes hW p hx (below_le hx (begins_le hW.beg))
theorem tillBack_calls (hW : Wk w g A c l i n op key A2 c2 a cn) (o : Option Gl) (h : ((behind l a n i).map fun p => plain_ (on l p)) = o) : Calls Try.prog 72 #[.pointer (some ⟨g, 0, none⟩)] w fun e w' => e = endG o ∧ Below w.heap.size w w' := by
  subst h
  cases hx : behind l a n i with
  | none => exact tillBack_no hW hx
  | some p => exact tillBack_yes hW p hx (behind_le hx (begins_le hW.beg))
end
end Go.Proofs.Ytiibjehnlphabaa

end

section
namespace Go.Proofs.Ytiibjehnlphabaa
open Go.RowKit Go.Proofs.YtiibjehnlphabaaW.PrintWords Go.Proofs.YtiibjehnlphabaaW.PrintMore Q
set_option linter.unusedVariables false
set_option linter.unusedSimpArgs false
section
variable {w : World} {g : Nat} {A : Option Addr} {c : Nat} {l : List Int} {i : Nat} {n : Nat} {op : Bool} {key : ByteArray} {A2 : Option Addr} {c2 : Nat} {a : List Int} {cn : Int}
theorem how_0 : Calls Try.prog 39 #[.string ⟨#[104]⟩] w fun e w' => e = .returned (.func (.func 56) #[] #[]) ∧ w = w' := by
  go_enter Try.func39, Try.ntmps39
  go_wp2_with fail
  go_ret
  exact ⟨rfl, rfl⟩

theorem how_1 : Calls Try.prog 39 #[.string ⟨#[108]⟩] w fun e w' => e = .returned (.func (.func 57) #[] #[]) ∧ w = w' := by
  go_enter Try.func39, Try.ntmps39
  go_wp2_with fail
  go_ret
  exact ⟨rfl, rfl⟩

theorem how_2 : Calls Try.prog 39 #[.string ⟨#[106]⟩] w fun e w' => e = .returned (.func (.func 58) #[] #[]) ∧ w = w' := by
  go_enter Try.func39, Try.ntmps39
  go_wp2_with fail
  go_ret
  exact ⟨rfl, rfl⟩

theorem how_3 : Calls Try.prog 39 #[.string ⟨#[107]⟩] w fun e w' => e = .returned (.func (.func 59) #[] #[]) ∧ w = w' := by
  go_enter Try.func39, Try.ntmps39
  go_wp2_with fail
  go_ret
  exact ⟨rfl, rfl⟩

theorem how_4 : Calls Try.prog 39 #[.string ⟨#[48]⟩] w fun e w' => e = .returned (.func (.func 60) #[] #[]) ∧ w = w' := by
  go_enter Try.func39, Try.ntmps39
  go_wp2_with fail
  go_ret
  exact ⟨rfl, rfl⟩

theorem how_5 : Calls Try.prog 39 #[.string ⟨#[94]⟩] w fun e w' => e = .returned (.func (.func 61) #[] #[]) ∧ w = w' := by
  go_enter Try.func39, Try.ntmps39
  go_wp2_with fail
  go_ret
  exact ⟨rfl, rfl⟩

theorem how_6 : Calls Try.prog 39 #[.string ⟨#[124]⟩] w fun e w' => e = .returned (.func (.func 62) #[] #[]) ∧ w = w' := by
  go_enter Try.func39, Try.ntmps39
  go_wp2_with fail
  go_ret
  exact ⟨rfl, rfl⟩

theorem how_7 : Calls Try.prog 39 #[.string ⟨#[36]⟩] w fun e w' => e = .returned (.func (.func 63) #[] #[]) ∧ w = w' := by
  go_enter Try.func39, Try.ntmps39
  go_wp2_with fail
  go_ret
  exact ⟨rfl, rfl⟩

theorem how_8 : Calls Try.prog 39 #[.string ⟨#[119]⟩] w fun e w' => e = .returned (.func (.func 64) #[] #[]) ∧ w = w' := by
  go_enter Try.func39, Try.ntmps39
  go_wp2_with fail
  go_ret
  exact ⟨rfl, rfl⟩

theorem how_9 : Calls Try.prog 39 #[.string ⟨#[101]⟩] w fun e w' => e = .returned (.func (.func 65) #[] #[]) ∧ w = w' := by
  go_enter Try.func39, Try.ntmps39
  go_wp2_with fail
  go_ret
  exact ⟨rfl, rfl⟩

theorem how_10 : Calls Try.prog 39 #[.string ⟨#[98]⟩] w fun e w' => e = .returned (.func (.func 66) #[] #[]) ∧ w = w' := by
  go_enter Try.func39, Try.ntmps39
  go_wp2_with fail
  go_ret
  exact ⟨rfl, rfl⟩

theorem how_11 : Calls Try.prog 39 #[.string ⟨#[71]⟩] w fun e w' => e = .returned (.func (.func 67) #[] #[]) ∧ w = w' := by
  go_enter Try.func39, Try.ntmps39
  go_wp2_with fail
  go_ret
  exact ⟨rfl, rfl⟩

theorem how_12 : Calls Try.prog 39 #[.string ⟨#[103, 103]⟩] w fun e w' => e = .returned (.func (.func 68) #[] #[]) ∧ w = w' := by
  go_enter Try.func39, Try.ntmps39
  go_wp2_with fail
  go_ret
  exact ⟨rfl, rfl⟩

theorem how_13 : Calls Try.prog 39 #[.string ⟨#[102]⟩] w fun e w' => e = .returned (.func (.func 69) #[] #[]) ∧ w = w' := by
  go_enter Try.func39, Try.ntmps39
  go_wp2_with fail
  go_ret
  exact ⟨rfl, rfl⟩

theorem how_14 : Calls Try.prog 39 #[.string ⟨#[116]⟩] w fun e w' => e = .returned (.func (.func 70) #[] #[]) ∧ w = w' := by
  go_enter Try.func39, Try.ntmps39
  go_wp2_with fail
  go_ret
  exact ⟨rfl, rfl⟩

theorem how_15 : Calls Try.prog 39 #[.string ⟨#[70]⟩] w fun e w' => e = .returned (.func (.func 71) #[] #[]) ∧ w = w' := by
  go_enter Try.func39, Try.ntmps39
  go_wp2_with fail
  go_ret
  exact ⟨rfl, rfl⟩

theorem how_16 : Calls Try.prog 39 #[.string ⟨#[84]⟩] w fun e w' => e = .returned (.func (.func 72) #[] #[]) ∧ w = w' := by
  go_enter Try.func39, Try.ntmps39
  go_wp2_with fail
  go_ret
  exact ⟨rfl, rfl⟩

theorem how_17 : Calls Try.prog 39 #[.string ⟨#[125]⟩] w fun e w' => e = .returned (.func (.func 73) #[] #[]) ∧ w = w' := by
  go_enter Try.func39, Try.ntmps39
  go_wp2_with fail
  go_ret
  exact ⟨rfl, rfl⟩

theorem how_18 : Calls Try.prog 39 #[.string ⟨#[123]⟩] w fun e w' => e = .returned (.func (.func 74) #[] #[]) ∧ w = w' := by
  go_enter Try.func39, Try.ntmps39
  go_wp2_with fail
  go_ret
  exact ⟨rfl, rfl⟩

theorem how_19 : Calls Try.prog 39 #[.string ⟨#[37]⟩] w fun e w' => e = .returned (.func (.func 75) #[] #[]) ∧ w = w' := by
  go_enter Try.func39, Try.ntmps39
  go_wp2_with fail
  go_ret
  exact ⟨rfl, rfl⟩

theorem how_none (h0 : ¬ key.toList = [104]) (h1 : ¬ key.toList = [108]) (h2 : ¬ key.toList = [106]) (h3 : ¬ key.toList = [107]) (h4 : ¬ key.toList = [48]) (h5 : ¬ key.toList = [94]) (h6 : ¬ key.toList = [124]) (h7 : ¬ key.toList = [36]) (h8 : ¬ key.toList = [119]) (h9 : ¬ key.toList = [101]) (h10 : ¬ key.toList = [98]) (h11 : ¬ key.toList = [71]) (h12 : ¬ key.toList = [103, 103]) (h13 : ¬ key.toList = [102]) (h14 : ¬ key.toList = [116]) (h15 : ¬ key.toList = [70]) (h16 : ¬ key.toList = [84]) (h17 : ¬ key.toList = [125]) (h18 : ¬ key.toList = [123]) (h19 : ¬ key.toList = [37]) : Calls Try.prog 39 #[.string key] w fun e w' => e = .returned (.func (.func 76) #[] #[]) ∧ w = w' := by
  have e0 : (key.toList == [104]) = false := beq_eq_false_iff_ne.2 h0
  have e1 : (key.toList == [108]) = false := beq_eq_false_iff_ne.2 h1
  have e2 : (key.toList == [106]) = false := beq_eq_false_iff_ne.2 h2
  have e3 : (key.toList == [107]) = false := beq_eq_false_iff_ne.2 h3
  have e4 : (key.toList == [48]) = false := beq_eq_false_iff_ne.2 h4
  have e5 : (key.toList == [94]) = false := beq_eq_false_iff_ne.2 h5
  have e6 : (key.toList == [124]) = false := beq_eq_false_iff_ne.2 h6
  have e7 : (key.toList == [36]) = false := beq_eq_false_iff_ne.2 h7
  have e8 : (key.toList == [119]) = false := beq_eq_false_iff_ne.2 h8
  have e9 : (key.toList == [101]) = false := beq_eq_false_iff_ne.2 h9
  have e10 : (key.toList == [98]) = false := beq_eq_false_iff_ne.2 h10
  have e11 : (key.toList == [71]) = false := beq_eq_false_iff_ne.2 h11
  have e12 : (key.toList == [103, 103]) = false := beq_eq_false_iff_ne.2 h12
  have e13 : (key.toList == [102]) = false := beq_eq_false_iff_ne.2 h13
  have e14 : (key.toList == [116]) = false := beq_eq_false_iff_ne.2 h14
  have e15 : (key.toList == [70]) = false := beq_eq_false_iff_ne.2 h15
  have e16 : (key.toList == [84]) = false := beq_eq_false_iff_ne.2 h16
  have e17 : (key.toList == [125]) = false := beq_eq_false_iff_ne.2 h17
  have e18 : (key.toList == [123]) = false := beq_eq_false_iff_ne.2 h18
  have e19 : (key.toList == [37]) = false := beq_eq_false_iff_ne.2 h19
  clear h0 h1 h2 h3 h4 h5 h6 h7 h8 h9 h10 h11 h12 h13 h14 h15 h16 h17 h18 h19
  go_enter Try.func39, Try.ntmps39
  go_wp2_with fail
  go_ret
  exact ⟨rfl, rfl⟩
end
end Go.Proofs.Ytiibjehnlphabaa

end

section
namespace Go.Proofs.Ytiibjehnlphabaa
open Go.RowKit Go.Proofs.YtiibjehnlphabaaW.PrintWords Go.Proofs.YtiibjehnlphabaaW.PrintMore Q
set_option linter.unusedVariables false
set_option linter.unusedSimpArgs false
section
variable {w : World} {g : Nat} {A : Option Addr} {c : Nat} {l : List Int} {i : Nat} {n : Nat} {op : Bool} {key : ByteArray} {A2 : Option Addr} {c2 : Nat} {a : List Int} {cn : Int}
def MethodOk (l : List Int) (i n : Nat) (op : Bool) (key : ByteArray) (a : List Int) (cn : Int) (f : Nat) (o : Option Gl) : Prop :=
  (∀ w, Calls Try.prog 39 #[.string key] w fun e w' => e = .returned (.func (.func f) #[] #[]) ∧ w = w') ∧
  (∀ (args : Array Value) (W : World), (callFunc f args).run Try.prog W = .ok (.enter f args) W) ∧
  ∀ (w : World) (g : Nat) (A : Option Addr) (c : Nat) (A2 : Option Addr) (c2 : Nat), Wk w g A c l i n op key A2 c2 a cn → Calls Try.prog f #[.pointer (some ⟨g, 0, none⟩)] w fun e w' => e = endG o ∧ Below w.heap.size w w'
theorem method_0 {o : Option Gl} (hn : n = times cn) (hc1 : -9223372036854775808 ≤ cn) (hc2 : cn ≤ 9223372036854775807) (h : motion l i [104] a cn op = o) : MethodOk l i n op ⟨#[104]⟩ a cn 56 o := by
  refine ⟨fun w => how_0, fun args W => by kernel_rfl, fun w g A c A2 c2 hW => ?_⟩
  have hi := begins_le hW.beg
  have hm := h
  simp (decide := true) only [motion, reduceIte, ← hn] at hm
  exact left_calls hW _ hm
theorem method_1 {o : Option Gl} (hn : n = times cn) (hc1 : -9223372036854775808 ≤ cn) (hc2 : cn ≤ 9223372036854775807) (h : motion l i [108] a cn op = o) : MethodOk l i n op ⟨#[108]⟩ a cn 57 o := by
  refine ⟨fun w => how_1, fun args W => by kernel_rfl, fun w g A c A2 c2 hW => ?_⟩
  have hi := begins_le hW.beg
  have hm := h
  simp (decide := true) only [motion, reduceIte, ← hn] at hm
  exact right_calls hW _ hm
theorem method_2 {o : Option Gl} (hn : n = times cn) (hc1 : -9223372036854775808 ≤ cn) (hc2 : cn ≤ 9223372036854775807) (h : motion l i [106] a cn op = o) : MethodOk l i n op ⟨#[106]⟩ a cn 58 o := by
  refine ⟨fun w => how_2, fun args W => by kernel_rfl, fun w g A c A2 c2 hW => ?_⟩
  have hi := begins_le hW.beg
  have hm := h
  simp (decide := true) only [motion, reduceIte, ← hn] at hm
  exact down_calls hW _ (fun p => below_begins hi) hm
theorem method_3 {o : Option Gl} (hn : n = times cn) (hc1 : -9223372036854775808 ≤ cn) (hc2 : cn ≤ 9223372036854775807) (h : motion l i [107] a cn op = o) : MethodOk l i n op ⟨#[107]⟩ a cn 59 o := by
  refine ⟨fun w => how_3, fun args W => by kernel_rfl, fun w g A c A2 c2 hW => ?_⟩
  have hi := begins_le hW.beg
  have hm := h
  simp (decide := true) only [motion, reduceIte, ← hn] at hm
  exact up_calls hW _ (fun p => above_begins hi) hm
theorem method_4 {o : Option Gl} (hn : n = times cn) (hc1 : -9223372036854775808 ≤ cn) (hc2 : cn ≤ 9223372036854775807) (h : motion l i [48] a cn op = o) : MethodOk l i n op ⟨#[48]⟩ a cn 60 o := by
  refine ⟨fun w => how_4, fun args W => by kernel_rfl, fun w g A c A2 c2 hW => ?_⟩
  have hi := begins_le hW.beg
  have hm := h
  simp (decide := true) only [motion, reduceIte, ← hn] at hm
  exact hm ▸ begin_calls hW
theorem method_5 {o : Option Gl} (hn : n = times cn) (hc1 : -9223372036854775808 ≤ cn) (hc2 : cn ≤ 9223372036854775807) (h : motion l i [94] a cn op = o) : MethodOk l i n op ⟨#[94]⟩ a cn 61 o := by
  refine ⟨fun w => how_5, fun args W => by kernel_rfl, fun w g A c A2 c2 hW => ?_⟩
  have hi := begins_le hW.beg
  have hm := h
  simp (decide := true) only [motion, reduceIte, ← hn] at hm
  exact hm ▸ indent_calls hW
theorem method_6 {o : Option Gl} (hn : n = times cn) (hc1 : -9223372036854775808 ≤ cn) (hc2 : cn ≤ 9223372036854775807) (h : motion l i [124] a cn op = o) : MethodOk l i n op ⟨#[124]⟩ a cn 62 o := by
  refine ⟨fun w => how_6, fun args W => by kernel_rfl, fun w g A c A2 c2 hW => ?_⟩
  have hi := begins_le hW.beg
  have hm := h
  simp (decide := true) only [motion, reduceIte, ← hn] at hm
  exact hm ▸ bar_calls hW
theorem method_7 {o : Option Gl} (hn : n = times cn) (hc1 : -9223372036854775808 ≤ cn) (hc2 : cn ≤ 9223372036854775807) (h : motion l i [36] a cn op = o) : MethodOk l i n op ⟨#[36]⟩ a cn 63 o := by
  refine ⟨fun w => how_7, fun args W => by kernel_rfl, fun w g A c A2 c2 hW => ?_⟩
  have hi := begins_le hW.beg
  have hm := h
  simp (decide := true) only [motion, reduceIte, ← hn] at hm
  exact tail_calls hW _ hm
theorem method_8 {o : Option Gl} (hn : n = times cn) (hc1 : -9223372036854775808 ≤ cn) (hc2 : cn ≤ 9223372036854775807) (h : motion l i [119] a cn op = o) : MethodOk l i n op ⟨#[119]⟩ a cn 64 o := by
  refine ⟨fun w => how_8, fun args W => by kernel_rfl, fun w g A c A2 c2 hW => ?_⟩
  have hi := begins_le hW.beg
  have hm := h
  simp (decide := true) only [motion, reduceIte, ← hn] at hm
  exact words_calls hW _ hm
theorem method_9 {o : Option Gl} (hn : n = times cn) (hc1 : -9223372036854775808 ≤ cn) (hc2 : cn ≤ 9223372036854775807) (h : motion l i [101] a cn op = o) : MethodOk l i n op ⟨#[101]⟩ a cn 65 o := by
  refine ⟨fun w => how_9, fun args W => by kernel_rfl, fun w g A c A2 c2 hW => ?_⟩
  have hi := begins_le hW.beg
  have hm := h
  simp (decide := true) only [motion, reduceIte, ← hn] at hm
  exact ends_calls hW _ hm
theorem method_10 {o : Option Gl} (hn : n = times cn) (hc1 : -9223372036854775808 ≤ cn) (hc2 : cn ≤ 9223372036854775807) (h : motion l i [98] a cn op = o) : MethodOk l i n op ⟨#[98]⟩ a cn 66 o := by
  refine ⟨fun w => how_10, fun args W => by kernel_rfl, fun w g A c A2 c2 hW => ?_⟩
  have hi := begins_le hW.beg
  have hm := h
  simp (decide := true) only [motion, reduceIte, ← hn] at hm
  exact backs_calls hW _ hm
theorem method_11 {o : Option Gl} (hn : n = times cn) (hc1 : -9223372036854775808 ≤ cn) (hc2 : cn ≤ 9223372036854775807) (h : motion l i [71] a cn op = o) : MethodOk l i n op ⟨#[71]⟩ a cn 67 o := by
  refine ⟨fun w => how_11, fun args W => by kernel_rfl, fun w g A c A2 c2 hW => ?_⟩
  have hi := begins_le hW.beg
  have hm := h
  simp (decide := true) only [motion, reduceIte, ← hn] at hm
  exact hm ▸ last_calls hW hc2 hc1 (lineN_begins (begins_zero l))
theorem method_12 {o : Option Gl} (hn : n = times cn) (hc1 : -9223372036854775808 ≤ cn) (hc2 : cn ≤ 9223372036854775807) (h : motion l i [103, 103] a cn op = o) : MethodOk l i n op ⟨#[103, 103]⟩ a cn 68 o := by
  refine ⟨fun w => how_12, fun args W => by kernel_rfl, fun w g A c A2 c2 hW => ?_⟩
  have hi := begins_le hW.beg
  have hm := h
  simp (decide := true) only [motion, reduceIte, ← hn] at hm
  exact hm ▸ first_calls hW hc2 hc1 (lineN_begins (begins_zero l))
theorem method_13 {o : Option Gl} (hn : n = times cn) (hc1 : -9223372036854775808 ≤ cn) (hc2 : cn ≤ 9223372036854775807) (h : motion l i [102] a cn op = o) : MethodOk l i n op ⟨#[102]⟩ a cn 69 o := by
  refine ⟨fun w => how_13, fun args W => by kernel_rfl, fun w g A c A2 c2 hW => ?_⟩
  have hi := begins_le hW.beg
  have hm := h
  simp (decide := true) only [motion, reduceIte, ← hn] at hm
  exact find_calls hW _ hm
theorem method_14 {o : Option Gl} (hn : n = times cn) (hc1 : -9223372036854775808 ≤ cn) (hc2 : cn ≤ 9223372036854775807) (h : motion l i [116] a cn op = o) : MethodOk l i n op ⟨#[116]⟩ a cn 70 o := by
  refine ⟨fun w => how_14, fun args W => by kernel_rfl, fun w g A c A2 c2 hW => ?_⟩
  have hi := begins_le hW.beg
  have hm := h
  simp (decide := true) only [motion, reduceIte, ← hn] at hm
  exact till_calls hW _ (fun p => ahead_le hi) hm
theorem method_15 {o : Option Gl} (hn : n = times cn) (hc1 : -9223372036854775808 ≤ cn) (hc2 : cn ≤ 9223372036854775807) (h : motion l i [70] a cn op = o) : MethodOk l i n op ⟨#[70]⟩ a cn 71 o := by
  refine ⟨fun w => how_15, fun args W => by kernel_rfl, fun w g A c A2 c2 hW => ?_⟩
  have hi := begins_le hW.beg
  have hm := h
  simp (decide := true) only [motion, reduceIte, ← hn] at hm
  exact findBack_calls hW _ hm
theorem method_16 {o : Option Gl} (hn : n = times cn) (hc1 : -9223372036854775808 ≤ cn) (hc2 : cn ≤ 9223372036854775807) (h : motion l i [84] a cn op = o) : MethodOk l i n op ⟨#[84]⟩ a cn 72 o := by
  refine ⟨fun w => how_16, fun args W => by kernel_rfl, fun w g A c A2 c2 hW => ?_⟩
  have hi := begins_le hW.beg
  have hm := h
  simp (decide := true) only [motion, reduceIte, ← hn] at hm
  exact tillBack_calls hW _ hm
theorem method_17 {o : Option Gl} (hn : n = times cn) (hc1 : -9223372036854775808 ≤ cn) (hc2 : cn ≤ 9223372036854775807) (h : motion l i [125] a cn op = o) : MethodOk l i n op ⟨#[125]⟩ a cn 73 o := by
  refine ⟨fun w => how_17, fun args W => by kernel_rfl, fun w g A c A2 c2 hW => ?_⟩
  have hi := begins_le hW.beg
  have hm := h
  simp (decide := true) only [motion, reduceIte, ← hn] at hm
  exact paragraph_calls hW _ hm
theorem method_18 {o : Option Gl} (hn : n = times cn) (hc1 : -9223372036854775808 ≤ cn) (hc2 : cn ≤ 9223372036854775807) (h : motion l i [123] a cn op = o) : MethodOk l i n op ⟨#[123]⟩ a cn 74 o := by
  refine ⟨fun w => how_18, fun args W => by kernel_rfl, fun w g A c A2 c2 hW => ?_⟩
  have hi := begins_le hW.beg
  have hm := h
  simp (decide := true) only [motion, reduceIte, ← hn] at hm
  exact paragraphBack_calls hW _ hm
theorem method_19 {o : Option Gl} (hn : n = times cn) (hc1 : -9223372036854775808 ≤ cn) (hc2 : cn ≤ 9223372036854775807) (h : motion l i [37] a cn op = o) : MethodOk l i n op ⟨#[37]⟩ a cn 75 o := by
  refine ⟨fun w => how_19, fun args W => by kernel_rfl, fun w g A c A2 c2 hW => ?_⟩
  have hi := begins_le hW.beg
  have hm := h
  simp (decide := true) only [motion, reduceIte, ← hn] at hm
  exact pair_calls hW _ hm

theorem method_none {o : Option Gl} (h0 : ¬ key.toList = [104]) (h1 : ¬ key.toList = [108]) (h2 : ¬ key.toList = [106]) (h3 : ¬ key.toList = [107]) (h4 : ¬ key.toList = [48]) (h5 : ¬ key.toList = [94]) (h6 : ¬ key.toList = [124]) (h7 : ¬ key.toList = [36]) (h8 : ¬ key.toList = [119]) (h9 : ¬ key.toList = [101]) (h10 : ¬ key.toList = [98]) (h11 : ¬ key.toList = [71]) (h12 : ¬ key.toList = [103, 103]) (h13 : ¬ key.toList = [102]) (h14 : ¬ key.toList = [116]) (h15 : ¬ key.toList = [70]) (h16 : ¬ key.toList = [84]) (h17 : ¬ key.toList = [125]) (h18 : ¬ key.toList = [123]) (h19 : ¬ key.toList = [37]) (h : motion l i key.toList a cn op = o) : MethodOk l i n op key a cn 76 o := by
  refine ⟨fun w => how_none h0 h1 h2 h3 h4 h5 h6 h7 h8 h9 h10 h11 h12 h13 h14 h15 h16 h17 h18 h19, fun args W => by kernel_rfl, fun w g A c A2 c2 hW => ?_⟩
  simp only [motion, if_neg h0, if_neg h1, if_neg h2, if_neg h3, if_neg h4, if_neg h5, if_neg h6, if_neg h7, if_neg h8, if_neg h9, if_neg h10, if_neg h11, if_neg h12, if_neg h13, if_neg h14, if_neg h15, if_neg h16, if_neg h17, if_neg h18, if_neg h19] at h
  exact h ▸ none_calls hW
theorem eq_of_toList {k : ByteArray} {x : Array UInt8} (h : k.toList = x.toList) : k = ⟨x⟩ := by
  rw [Lib.toList_data] at h
  cases k
  congr 1
  exact Array.toList_inj.1 h
theorem method_all (hn : n = times cn) (hc1 : -9223372036854775808 ≤ cn) (hc2 : cn ≤ 9223372036854775807) (o : Option Gl) (h : motion l i key.toList a cn op = o) : ∃ f, MethodOk l i n op key a cn f o := by
  by_cases h0 : key.toList = [104]
  · rw [h0] at h
    rw [eq_of_toList (x := #[104]) h0]
    exact ⟨_, method_0 hn hc1 hc2 h⟩
  by_cases h1 : key.toList = [108]
  · rw [h1] at h
    rw [eq_of_toList (x := #[108]) h1]
    exact ⟨_, method_1 hn hc1 hc2 h⟩
  by_cases h2 : key.toList = [106]
  · rw [h2] at h
    rw [eq_of_toList (x := #[106]) h2]
    exact ⟨_, method_2 hn hc1 hc2 h⟩
  by_cases h3 : key.toList = [107]
  · rw [h3] at h
    rw [eq_of_toList (x := #[107]) h3]
    exact ⟨_, method_3 hn hc1 hc2 h⟩
  by_cases h4 : key.toList = [48]
  · rw [h4] at h
    rw [eq_of_toList (x := #[48]) h4]
    exact ⟨_, method_4 hn hc1 hc2 h⟩
  by_cases h5 : key.toList = [94]
  · rw [h5] at h
    rw [eq_of_toList (x := #[94]) h5]
    exact ⟨_, method_5 hn hc1 hc2 h⟩
  by_cases h6 : key.toList = [124]
  · rw [h6] at h
    rw [eq_of_toList (x := #[124]) h6]
    exact ⟨_, method_6 hn hc1 hc2 h⟩
  by_cases h7 : key.toList = [36]
  · rw [h7] at h
    rw [eq_of_toList (x := #[36]) h7]
    exact ⟨_, method_7 hn hc1 hc2 h⟩
  by_cases h8 : key.toList = [119]
  · rw [h8] at h
    rw [eq_of_toList (x := #[119]) h8]
    exact ⟨_, method_8 hn hc1 hc2 h⟩
  by_cases h9 : key.toList = [101]
  · rw [h9] at h
    rw [eq_of_toList (x := #[101]) h9]
    exact ⟨_, method_9 hn hc1 hc2 h⟩
  by_cases h10 : key.toList = [98]
  · rw [h10] at h
    rw [eq_of_toList (x := #[98]) h10]
    exact ⟨_, method_10 hn hc1 hc2 h⟩
  by_cases h11 : key.toList = [71]
  · rw [h11] at h
    rw [eq_of_toList (x := #[71]) h11]
    exact ⟨_, method_11 hn hc1 hc2 h⟩
  by_cases h12 : key.toList = [103, 103]
  · rw [h12] at h
    rw [eq_of_toList (x := #[103, 103]) h12]
    exact ⟨_, method_12 hn hc1 hc2 h⟩
  by_cases h13 : key.toList = [102]
  · rw [h13] at h
    rw [eq_of_toList (x := #[102]) h13]
    exact ⟨_, method_13 hn hc1 hc2 h⟩
  by_cases h14 : key.toList = [116]
  · rw [h14] at h
    rw [eq_of_toList (x := #[116]) h14]
    exact ⟨_, method_14 hn hc1 hc2 h⟩
  by_cases h15 : key.toList = [70]
  · rw [h15] at h
    rw [eq_of_toList (x := #[70]) h15]
    exact ⟨_, method_15 hn hc1 hc2 h⟩
  by_cases h16 : key.toList = [84]
  · rw [h16] at h
    rw [eq_of_toList (x := #[84]) h16]
    exact ⟨_, method_16 hn hc1 hc2 h⟩
  by_cases h17 : key.toList = [125]
  · rw [h17] at h
    rw [eq_of_toList (x := #[125]) h17]
    exact ⟨_, method_17 hn hc1 hc2 h⟩
  by_cases h18 : key.toList = [123]
  · rw [h18] at h
    rw [eq_of_toList (x := #[123]) h18]
    exact ⟨_, method_18 hn hc1 hc2 h⟩
  by_cases h19 : key.toList = [37]
  · rw [h19] at h
    rw [eq_of_toList (x := #[37]) h19]
    exact ⟨_, method_19 hn hc1 hc2 h⟩
  exact ⟨_, method_none h0 h1 h2 h3 h4 h5 h6 h7 h8 h9 h10 h11 h12 h13 h14 h15 h16 h17 h18 h19 h⟩
end
end Go.Proofs.Ytiibjehnlphabaa

end

section
namespace Go.Proofs.Ytiibjehnlphabaa
open Go.RowKit Go.Proofs.YtiibjehnlphabaaW.PrintWords Go.Proofs.YtiibjehnlphabaaW.PrintMore Q
set_option linter.unusedVariables false
set_option linter.unusedSimpArgs false
theorem rep15 : Array.replicate 15 undef = #[undef, undef, undef, undef, undef, undef, undef, undef, undef, undef, undef, undef, undef, undef, undef] := rfl
theorem mcatch_idle (p q : Addr) (w : World) :
    CallsD Try.prog 37 #[.pointer (some p), .pointer (some q)] .returning w fun e u' w' => e = .returned (.tuple #[]) ∧ u' = .returning ∧ w' = w := by
  refine callsD_of_wpS Try.func37 rfl fun c₀ cs hu => ?_
  apply wpS_seq
  apply wpS_region
  simp [wpOpsS, go_sem, recoverD, hu, Try.ntmps37, Exit.thenS, rep15]
  refine wpS_of_wp ?_
  go_wp2
  cases c₀
  simp_all [bodyPostS, results, Try.results37]
theorem massert (v : Value) (W : World) : (Instr.typeAssert (.iface 53 v) 20 53 true).run Try.prog W = .ok (.tuple #[v, .bool true]) W := by rfl
structure Out (w : World) (g h : Nat) (x : Nat) (y z ok : Bool) : Prop where
  g_ : w.heap[g]? = some (.cells #[.int .i64 (x : Int), .bool y, .bool z] 25 (0, 0))
  h_ : w.heap[h]? = some (.cells #[.bool ok] 4 (0, 0))
theorem Out.facts {w : World} {g h x : Nat} {y z ok : Bool} (o : Out w g h x y z ok) :
    w.cell? ⟨g, 0, none⟩ = some (.int .i64 (x : Int)) ∧ w.cell? ⟨g, 1, none⟩ = some (.bool y) ∧ w.cell? ⟨g, 2, none⟩ = some (.bool z) ∧ w.cell? ⟨h, 0, none⟩ = some (.bool ok) ∧ (∀ i, w.frozen? ⟨g, i, none⟩ = false) ∧ (∀ i, w.frozen? ⟨h, i, none⟩ = false) ∧ g < w.heap.size ∧ h < w.heap.size := by
  have h1 := o.g_
  have h2 := o.h_
  refine ⟨?_, ?_, ?_, ?_, fun i => ?_, fun i => ?_, ?_, ?_⟩
  · simp [World.cell?, h1]
  · simp [World.cell?, h1]
  · simp [World.cell?, h1]
  · simp [World.cell?, h2]
  · simp [World.frozen?, h1]
  · simp [World.frozen?, h2]
  · rcases Nat.lt_or_ge g w.heap.size with hlt | hge
    · exact hlt
    · rw [Array.getElem?_eq_none hge] at h1; cases h1
  · rcases Nat.lt_or_ge h w.heap.size with hlt | hge
    · exact hlt
    · rw [Array.getElem?_eq_none hge] at h2; cases h2
theorem mcatch_panicking (g h : Nat) (w : World) (o : Out w g h 0 false false false) (hgh : ¬ g = h) :
    CallsD Try.prog 37 #[.pointer (some ⟨g, 0, none⟩), .pointer (some ⟨h, 0, none⟩)] (.panicking thrown) w fun e u' w' =>
      e = .returned (.tuple #[]) ∧ u' = .panicking [{ v := .iface 53 (.agg #[]), recovered := true }] ∧ w' = ((laidV w g 0 false false).setCell ⟨h, 0, none⟩ (.bool false)).alloc (.cells #[] 53) := by
  unfold thrown
  have hta := massert
  obtain ⟨a0, a1, a2, a3, a4, a5, a6, a7⟩ := o.facts
  have b0 := (World.cell?_alloc_past (.cells #[] 53) g 0 a6).trans a0
  have b1 := (World.cell?_alloc_past (.cells #[] 53) g 1 a6).trans a1
  have b2 := (World.cell?_alloc_past (.cells #[] 53) g 2 a6).trans a2
  have b3 := (World.cell?_alloc_past (.cells #[] 53) h 0 a7).trans a3
  have b4 := (World.frozen?_alloc_past (.cells #[] 53) g 0 a6).trans (a4 0)
  have b5 := (World.frozen?_alloc_past (.cells #[] 53) g 1 a6).trans (a4 1)
  have b6 := (World.frozen?_alloc_past (.cells #[] 53) g 2 a6).trans (a4 2)
  have b7 := (World.frozen?_alloc_past (.cells #[] 53) h 0 a7).trans (a5 0)
  refine callsD_of_wpS Try.func37 rfl fun c₀ cs hu => ?_
  apply wpS_seq
  apply wpS_region
  simp [wpOpsS, go_sem, recoverD, hu, Try.ntmps37, Exit.thenS, rep15]
  refine wpS_of_wp ?_
  go_wp2
  cases c₀
  simp_all [bodyPostS, results, Try.results37, laidV]
theorem Out.laid {w : World} {g h x : Nat} {y z ok : Bool} (o : Out w g h x y z ok) (hgh : ¬ g = h) (x' : Nat) (y' z' ok' : Bool) : Out ((laidV w g x' y' z').setCell ⟨h, 0, none⟩ (.bool ok')) g h x' y' z' ok' := by
  have h1 := o.g_
  have h2 := o.h_
  constructor
  · simp [laidV, World.setCell, Array.getElem?_modify, h1, hgh, Ne.symm (Ne.intro hgh)]
  · simp [laidV, World.setCell, Array.getElem?_modify, h2, hgh, Ne.symm (Ne.intro hgh)]
theorem Out.below {w w' : World} {g h x : Nat} {y z ok : Bool} (o : Out w g h x y z ok) (hb : Below w.heap.size w w') : Out w' g h x y z ok := by
  obtain ⟨_, _, _, _, _, _, a6, a7⟩ := o.facts
  exact ⟨(hb.block g a6).trans o.g_, (hb.block h a7).trans o.h_⟩
theorem Out.alloc {w : World} {g h x : Nat} {y z ok : Bool} (o : Out w g h x y z ok) (ob : Obj) : Out (w.alloc ob) g h x y z ok := o.below (below_alloc (Below.refl _ _) ob)
theorem Out.answer {w : World} {g h x : Nat} {y z ok : Bool} (o : Out w g h x y z ok) (tm : Array Value) (h2 : tm[8]? = some (.pointer (some ⟨g, 0, none⟩))) (h3 : tm[9]? = some (.pointer (some ⟨h, 0, none⟩))) :
    (results Try.f13 tm).run Try.prog w = .ok (.tuple #[goalV x y z, .bool ok]) w := by
  obtain ⟨a0, a1, a2, a3, a4, a5, a6, a7⟩ := o.facts
  have hu := Try.underlying25
  simp [results, Try.results13, go_sem, h2, h3, a0, a1, a2, a3, goalV]
theorem go_door_no (tm : Array Value) (g h : Nat) (w0 w : World) (h2 : tm[8]? = some (.pointer (some ⟨g, 0, none⟩))) (h3 : tm[9]? = some (.pointer (some ⟨h, 0, none⟩)))
    (o : Out w g h 0 false false false) (hb : Below w0.heap.size w0 w) (hg : w0.heap.size ≤ g) (hh : w0.heap.size ≤ h) (hgh : ¬ g = h) :
    Leaves Try.prog Try.f13 tm (fun e w' => e = .returned (.tuple #[goalV 0 false false, .bool false]) ∧ Below w0.heap.size w0 w')
      [{ target := .fn (.func 37) #[.pointer (some ⟨g, 0, none⟩), .pointer (some ⟨h, 0, none⟩)], args := #[] }] (.panicking thrown) w := by
  refine leaves_cons (f := 37) (args := #[.pointer (some ⟨g, 0, none⟩), .pointer (some ⟨h, 0, none⟩)]) (by simp) (by simp [go_sem]) ?_
  refine (mcatch_panicking g h w o hgh).mono ?_
  rintro e u' w'' ⟨rfl, rfl, rfl⟩
  have hbb : Below w0.heap.size w0 (((laidV w g 0 false false).setCell ⟨h, 0, none⟩ (.bool false)).alloc (.cells #[] 53)) :=
    below_alloc ((((hb.setCell (p := ⟨g, 0, none⟩) hg _).setCell (p := ⟨g, 1, none⟩) hg _).setCell (p := ⟨g, 2, none⟩) hg _).setCell (p := ⟨h, 0, none⟩) hh _) _
  exact ⟨_, ((o.laid hgh 0 false false false).alloc _).answer tm h2 h3, rfl, hbb⟩
theorem go_door_yes (tm : Array Value) (g h x : Nat) (y z ok : Bool) (w0 w : World) (h2 : tm[8]? = some (.pointer (some ⟨g, 0, none⟩))) (h3 : tm[9]? = some (.pointer (some ⟨h, 0, none⟩)))
    (o : Out w g h x y z ok) (hb : Below w0.heap.size w0 w) :
    Leaves Try.prog Try.f13 tm (fun e w' => e = .returned (.tuple #[goalV x y z, .bool ok]) ∧ Below w0.heap.size w0 w')
      [{ target := .fn (.func 37) #[.pointer (some ⟨g, 0, none⟩), .pointer (some ⟨h, 0, none⟩)], args := #[] }] .returning w := by
  refine leaves_cons (f := 37) (args := #[.pointer (some ⟨g, 0, none⟩), .pointer (some ⟨h, 0, none⟩)]) (by simp) (by simp [go_sem]) ?_
  refine (mcatch_idle _ _ w).mono ?_
  rintro e u' w'' ⟨rfl, rfl, rfl⟩
  exact ⟨_, o.answer tm h2 h3, rfl, hb⟩
section
variable {w : World} {g : Nat} {A : Option Addr} {c : Nat} {l : List Int} {i : Nat} {n : Nat} {op : Bool} {key : ByteArray} {A2 : Option Addr} {c2 : Nat} {a : List Int} {cn : Int}
def goV : Option Gl → Value
  | some (x, y, z) => .tuple #[goalV x y z, .bool true]
  | none => .tuple #[goalV 0 false false, .bool false]
structure Gs (w0 w : World) (S1 S2 : Prop) (key : ByteArray) (A2 : Option Addr) (n2 c2 : Nat) (cn : Int) : Prop where
  sl : S1
  sa : S2
  b0 : w.cell? ⟨w0.heap.size, 0, none⟩ = some (.string key)
  b1 : w.cell? ⟨w0.heap.size, 1, none⟩ = some (.slice A2 n2 c2)
  b2 : w.cell? ⟨w0.heap.size, 2, none⟩ = some (.int .i64 cn)
  out : Out w (w0.heap.size + 1) (w0.heap.size + 2) 0 false false false
  bel : Below w0.heap.size w0 w
theorem Gs.begin_ (hS : Sl w A c l) (hA : Sl w A2 c2 a) (key : ByteArray) (cn : Int) :
    Gs w (((w.alloc (Obj.cells #[Value.string key, Value.slice A2 a.length c2, Value.int IntKind.i64 cn] 29)).alloc (Obj.cells #[Value.int IntKind.i64 0, Value.bool false, Value.bool false] 25)).alloc (Obj.cells #[Value.bool false] 4))
      (Sl (((w.alloc (Obj.cells #[Value.string key, Value.slice A2 a.length c2, Value.int IntKind.i64 cn] 29)).alloc (Obj.cells #[Value.int IntKind.i64 0, Value.bool false, Value.bool false] 25)).alloc (Obj.cells #[Value.bool false] 4)) A c l)
      (Sl (((w.alloc (Obj.cells #[Value.string key, Value.slice A2 a.length c2, Value.int IntKind.i64 cn] 29)).alloc (Obj.cells #[Value.int IntKind.i64 0, Value.bool false, Value.bool false] 25)).alloc (Obj.cells #[Value.bool false] 4)) A2 c2 a) key A2 a.length c2 cn := by
  have hb : Below w.heap.size w (((w.alloc (Obj.cells #[Value.string key, Value.slice A2 a.length c2, Value.int IntKind.i64 cn] 29)).alloc (Obj.cells #[Value.int IntKind.i64 0, Value.bool false, Value.bool false] 25)).alloc (Obj.cells #[Value.bool false] 4)) :=
    below_alloc (below_alloc (below_alloc (Below.refl _ _) _) _) _
  refine ⟨hS.below hb, hA.below hb, by simp [go_sem], by simp [go_sem], by simp [go_sem], ⟨by unfold World.alloc; simp [Array.getElem?_push, Array.getElem_push], by unfold World.alloc; simp [Array.getElem?_push, Array.getElem_push]⟩, hb⟩
section
variable {w0 w1 w2 : World} {n2 : Nat}
theorem Gs.two (h : Gs w0 w (Sl w A c l) (Sl w A2 c2 a) key A2 a.length c2 cn) (hb : Below w.heap.size w w1) : Gs w0 w1 (Sl w1 A c l) (Sl w1 A2 c2 a) key A2 a.length c2 cn :=
  ⟨h.sl.below hb, h.sa.below hb, pw_cell_below hb h.b0, pw_cell_below hb h.b1, pw_cell_below hb h.b2, h.out.below hb, h.bel.trans (hb.mono h.bel.size)⟩
theorem Gs.step (h : Gs w0 w (Sl w A c l) (Sl w A2 c2 a) key A2 a.length c2 cn) (h1 : Below w.heap.size w w1) (h2 : Below w1.heap.size w1 w2) : Gs w0 w2 (Sl w2 A c l) (Sl w2 A2 c2 a) key A2 a.length c2 cn :=
  h.two (h1.trans (h2.mono h1.size))
end
set_option maxHeartbeats 1000000 in
set_option maxRecDepth 100000 in
theorem Go_calls (hS : Sl w A c l) (hA : Sl w A2 c2 a) (a1 : Int) (hc1 : -9223372036854775808 ≤ cn) (hc2 : cn ≤ 9223372036854775807) (o : Option Gl) (h : motion l (place l a1) key.toList a cn op = o) :
    Calls Try.prog 13 #[.slice A l.length c, .int .i64 a1, .agg #[.string key, .slice A2 a.length c2, .int .i64 cn], .bool op] w fun e w' => e = .returned (goV o) ∧ Below w.heap.size w w' := by
  obtain ⟨f, hf1, hf3, hf2⟩ := method_all (n := times cn) rfl hc1 hc2 o h
  have HF := Aside0.mk hf2
  have HF1 := Aside0.mk hf1
  clear hf2 hf1
  have hi := Aside0.mk (place_begins l a1)
  have HSl := Aside0.mk hS
  have HA := Aside0.mk hA
  have hmax : (if cn < 1 then (1 : Int) else cn) = ((times cn : Nat) : Int) := by unfold times; split <;> omega
  have hn1 : 1 ≤ times cn := by unfold times; omega
  have hn2 : ((times cn : Nat) : Int) ≤ 9223372036854775807 := by unfold times; omega
  clear hS hA h
  go_enter_defers Try.func13, Try.ntmps13
  go_wp2_with fail
  generalize hW : (((w.alloc (Obj.cells #[Value.string key, Value.slice A2 a.length c2, Value.int IntKind.i64 cn] 29)).alloc (Obj.cells #[Value.int IntKind.i64 0, Value.bool false, Value.bool false] 25)).alloc (Obj.cells #[Value.bool false] 4)) = W
  have HS : Aside0 (Gs w W (Sl W A c l) (Sl W A2 c2 a) key A2 a.length c2 cn) := ⟨hW ▸ Gs.begin_ HSl.out HA.out key cn⟩
  clear hW HSl HA
  go_region_held3 (fun w' => w'.cell? ⟨w.heap.size, 0, none⟩ = some (.string key) ∧ w'.cell? ⟨w.heap.size, 1, none⟩ = some (.slice A2 a.length c2) ∧ w'.cell? ⟨w.heap.size, 2, none⟩ = some (.int .i64 cn)) (first | exact ⟨HS.out.b0, HS.out.b1, HS.out.b2⟩ | exact ⟨(HS.out.two (below_drew (Below.refl _ _))).b0, (HS.out.two (below_drew (Below.refl _ _))).b1, (HS.out.two (below_drew (Below.refl _ _))).b2⟩ | exact ⟨(HS.out.two (below_alloc (Below.refl _ _) _)).b0, (HS.out.two (below_alloc (Below.refl _ _) _)).b1, (HS.out.two (below_alloc (Below.refl _ _) _)).b2⟩)
    (first | (go_at_call 38; refine (c_place (HS.out.two (below_drew (Below.refl _ _))).sl a1).mono ?_; rintro e w1 ⟨rfl, hd⟩; have HT := Aside0.mk (HS.out.step (below_drew (Below.refl _ _)) hd); clear hd HS; have HS := HT; clear HT))
  all_goals (
    have HT : Gs w (w1.alloc (Obj.cells #[Value.slice A l.length c, Value.int IntKind.i64 (place l a1 : Int), Value.int IntKind.i64 (times cn : Int), Value.bool op, Value.string key, Value.slice A2 a.length c2, Value.int IntKind.i64 cn] 57)) _ _ _ _ _ _ _ := HS.out.two (below_alloc (Below.refl _ _) _)
    have HK : Wk (w1.alloc (Obj.cells #[Value.slice A l.length c, Value.int IntKind.i64 (place l a1 : Int), Value.int IntKind.i64 (times cn : Int), Value.bool op, Value.string key, Value.slice A2 a.length c2, Value.int IntKind.i64 cn] 57)) w1.heap.size A c l (place l a1) (times cn) op key A2 c2 a cn :=
      ⟨by simp [go_sem], by simp [go_sem], by simp [go_sem], by simp [go_sem], by simp [go_sem], by simp [go_sem], by simp [go_sem], HT.sl, HT.sa, hi.out, hn1, hn2⟩
    generalize (w1.alloc (Obj.cells #[Value.slice A l.length c, Value.int IntKind.i64 (place l a1 : Int), Value.int IntKind.i64 (times cn : Int), Value.bool op, Value.string key, Value.slice A2 a.length c2, Value.int IntKind.i64 cn] 57)) = W2 at *
    clear HS
    have HS := Aside0.mk HT
    have HKK := Aside0.mk HK
    clear HT HK
    have q0 := HS.out.b0
    have q1 := HS.out.b1
    have q2 := HS.out.b2
    go_wp2_with fail
    refine (HF1.out _).mono ?_
    rintro e wx ⟨rfl, rfl⟩
    go_wp2_with fail
    refine (HF.out _ _ _ _ _ _ HKK.out).mono ?_
    rintro e w3 ⟨rfl, hd⟩
    have HT := Aside0.mk (HS.out.two hd)
    clear hd HS HKK q0 q1 q2
    cases o with
    | none =>
      simp only [endG]
      go_wp2_with fail
      exact go_door_no _ _ _ _ _ rfl rfl HT.out.out HT.out.bel (by omega) (by omega) (by omega)
    | some t =>
      obtain ⟨x, y, z⟩ := t
      simp only [endG, goalV]
      have HO := Aside0.mk (HT.out.out.laid (by omega) x y z true)
      have HB := HT.out.bel
      have hbb : Aside0 (Below w.heap.size w ((laidV w3 (w.heap.size + 1) x y z).setCell ⟨w.heap.size + 2, 0, none⟩ (.bool true))) :=
        ⟨(((HB.setCell (p := ⟨w.heap.size + 1, 0, none⟩) (by simp) _).setCell (p := ⟨w.heap.size + 1, 1, none⟩) (by simp) _).setCell (p := ⟨w.heap.size + 1, 2, none⟩) (by simp) _).setCell (p := ⟨w.heap.size + 2, 0, none⟩) (by simp) _⟩
      clear HB
      obtain ⟨r0, r1, r2, r3, r4, r5, r6, r7⟩ := HT.out.out.facts
      have r40 := r4 0
      have r41 := r4 1
      have r42 := r4 2
      have r50 := r5 0
      clear r4 r5
      go_wp2_with fail
      exact go_door_yes _ _ _ _ _ _ _ _ _ rfl rfl HO.out hbb.out)
end
end Go.Proofs.Ytiibjehnlphabaa

end

section
namespace Go.Proofs.Ytiibjehnlphabaa
open Go.RowKit Go.Proofs.YtiibjehnlphabaaW.PrintWords Go.Proofs.YtiibjehnlphabaaW.PrintMore Q
set_option linter.unusedVariables false
set_option linter.unusedSimpArgs false
def goT : Option Gl → Int × Bool × Bool × Bool
  | some (x, y, z) => ((x : Int), y, z, true)
  | none => (0, false, false, false)
end Go.Proofs.Ytiibjehnlphabaa

end

section
namespace Go.Proofs.Ytiibjehnlphabaa
open Go.RowKit Go.Proofs.YtiibjehnlphabaaW.PrintWords Go.Proofs.YtiibjehnlphabaaW.PrintMore Q
set_option linter.unusedVariables false
set_option linter.unusedSimpArgs false

theorem byte_fin {P : Int → Prop} (h : ∀ n : Fin 256, P (n.val : Int)) {c : Int} (h0 : 0 ≤ c) (h1 : c ≤ 255) : P c := by
  have := h ⟨c.toNat, by omega⟩
  rwa [show ((c.toNat : Nat) : Int) = c by omega] at this
theorem follows_eq {c : Int} (h0 : 0 ≤ c) (h1 : c ≤ 255) : X_follows.f c = some (decide (128 ≤ c ∧ c < 192)) := by
  refine byte_fin (P := fun c => X_follows.f c = some (decide (128 ≤ c ∧ c < 192))) ?_ h0 h1
  decide +kernel
theorem and63 {c : Int} (h0 : 128 ≤ c) (h1 : c < 192) : Go.bits .and .u8 c 63 = c - 128 := by
  refine byte_fin (P := fun c => 128 ≤ c → c < 192 → Go.bits .and .u8 c 63 = c - 128) ?_ (by omega) (by omega) h0 h1
  decide +kernel
theorem and31 {c : Int} (h0 : 192 ≤ c) (h1 : c < 224) : Go.bits .and .u8 c 31 = c - 192 := by
  refine byte_fin (P := fun c => 192 ≤ c → c < 224 → Go.bits .and .u8 c 31 = c - 192) ?_ (by omega) (by omega) h0 h1
  decide +kernel
theorem and15 {c : Int} (h0 : 224 ≤ c) (h1 : c < 240) : Go.bits .and .u8 c 15 = c - 224 := by
  refine byte_fin (P := fun c => 224 ≤ c → c < 240 → Go.bits .and .u8 c 15 = c - 224) ?_ (by omega) (by omega) h0 h1
  decide +kernel
theorem and7 {c : Int} (h0 : 240 ≤ c) (h1 : c < 248) : Go.bits .and .u8 c 7 = c - 240 := by
  refine byte_fin (P := fun c => 240 ≤ c → c < 248 → Go.bits .and .u8 c 7 = c - 240) ?_ (by omega) (by omega) h0 h1
  decide +kernel

section
variable {l : List Int} {i : Nat}
theorem rsev_step (ok : OkL l) {n j : Nat} (hj : 1 ≤ j) (hjn : j < n) (hn : n ≤ 4) (hin : i + n ≤ l.length) {x : Int} (hx0 : 0 ≤ x) (hx1 : x < 16777216) {r : Int × Int}
    (hr : 128 ≤ l.getD (i + j) 0 ∧ l.getD (i + j) 0 < 192 → Ev (fun k => X_several.l0 k l (i : Int) (n : Int) (x * 64 + (l.getD (i + j) 0 - 128)) ((j + 1 : Nat) : Int)) r)
    (hr0 : ¬ (128 ≤ l.getD (i + j) 0 ∧ l.getD (i + j) 0 < 192) → r = (0, 0)) : Ev (fun k => X_several.l0 k l (i : Int) (n : Int) x (j : Int)) r := by
  have hsz := ok.size
  have hb := ok.at_ (i := i + j) (by omega)
  refine Ev.step (fun k => rfl) ?_
  simp only [X_several.l0]
  rw [w64 (n := (i : Int) + j) (by omega) (by omega), w64 (n := (j : Int) + 1) (by omega) (by omega)]
  refine Ev.pos (by omega) (Ev.pos (by omega) (Ev.pos (by omega) ?_))
  rw [show (i : Int) + (j : Int) = ((i + j : Nat) : Int) by omega, rd_nat, follows_eq hb.1 hb.2]
  simp only [Option.bind_some]
  by_cases hc : 128 ≤ l.getD (i + j) 0 ∧ l.getD (i + j) 0 < 192
  · refine Ev.pos (decide_eq_true hc) ?_
    rw [and63 hc.1 hc.2, w64 (n := l.getD (i + j) 0 - 128) (by omega) (by omega), w64 (n := x * 64) (by omega) (by omega), i64_or6 (by omega) (by omega) (by omega) (by omega) (by omega)]
    exact hr hc
  · refine Ev.neg (by simp only [decide_eq_true_eq]; exact hc) (Ev.is (Ev.now _) (hr0 hc).symm)
def leastOf : Nat → Int
  | 2 => 128
  | 3 => 2048
  | _ => 65536
theorem rsev_end {n : Nat} (h2 : 2 ≤ n) (h4 : n ≤ 4) {x : Int} (hx0 : 0 ≤ x) : Ev (fun k => X_several.l0 k l (i : Int) (n : Int) x (n : Int)) (sevEnd (leastOf n) n (some x)) := by
  refine Ev.step (fun k => rfl) ?_
  simp only [X_several.l0, Option.bind_some]
  refine Ev.neg (by omega) (Ev.pos (by omega) (Ev.pos (by simp; omega) ?_))
  have hl : rd ([0, 0, 128, 2048, 65536] : List Int) (n : Int) = leastOf n := by
    rcases (by omega : n = 2 ∨ n = 3 ∨ n = 4) with rfl | rfl | rfl <;> rfl
  rw [hl]
  simp only [sevEnd, sevMay, Bool.and_eq_true, Bool.or_eq_true, decide_eq_true_eq]
  by_cases a : x < leastOf n
  · exact Ev.pos a (Ev.is (Ev.now _) (by rw [if_neg (by omega)]))
  · refine Ev.neg a ?_
    by_cases b : x > 1114111
    · exact Ev.pos b (Ev.is (Ev.now _) (by rw [if_neg (by omega)]))
    · refine Ev.neg b ?_
      by_cases c : x ≥ 55296
      · refine Ev.pos c ?_
        by_cases d : x ≤ 57343
        · exact Ev.pos d (Ev.is (Ev.now _) (by rw [if_neg (by omega)]))
        · exact Ev.neg d (Ev.is (Ev.now _) (by rw [if_pos (by omega)]))
      · exact Ev.neg c (Ev.is (Ev.now _) (by rw [if_pos (by omega)]))
theorem rsev_loop (ok : OkL l) {n : Nat} (h2 : 2 ≤ n) (h4 : n ≤ 4) (hin : i + n ≤ l.length) : ∀ (m j : Nat), j + m = n → 1 ≤ j → ∀ x : Int, 0 ≤ x → x < 32 * 64 ^ (j - 1) →
    Ev (fun k => X_several.l0 k l (i : Int) (n : Int) x (j : Int)) (sevEnd (leastOf n) n (sevTail x ((l.drop (i + j)).take m)))
  | 0, j, hjm, hj, x, hx0, hx1 => by
    obtain rfl : j = n := by omega
    simp only [List.take_zero, sevTail, List.foldlM_nil]
    exact rsev_end h2 h4 hx0
  | m + 1, j, hjm, hj, x, hx0, hx1 => by
    have hp : (64 : Int) ^ (j - 1) ≤ 64 ^ 3 := by
      have := Nat.pow_le_pow_right (n := 64) (by omega) (show j - 1 ≤ 3 by omega)
      exact_mod_cast this
    have hd : l.drop (i + j) = l.getD (i + j) 0 :: l.drop (i + (j + 1)) := by
      rw [List.drop_eq_getElem_cons (by omega), List.getD_eq_getElem?_getD, List.getElem?_eq_getElem (by omega)]
      rfl
    rw [hd, List.take_succ_cons]
    have ht : sevTail x (l.getD (i + j) 0 :: (l.drop (i + (j + 1))).take m) = (sevStep x (l.getD (i + j) 0)).bind fun y => sevTail y ((l.drop (i + (j + 1))).take m) := by
      simp only [sevTail, List.foldlM_cons]
      rfl
    rw [ht]
    have hb := ok.at_ (i := i + j) (by omega)
    refine rsev_step ok hj (by omega) h4 hin hx0 (by omega) (fun hc => ?_) (fun hc => ?_)
    · simp only [sevStep, if_pos hc, Option.bind_some]
      have hpow : (64 : Int) ^ (j + 1 - 1) = 64 ^ (j - 1) * 64 := by
        rw [← Int.pow_succ]
        congr 1
        omega
      exact rsev_loop ok h2 h4 hin m (j + 1) (by omega) (by omega) _ (by omega) (by rw [hpow]; omega)
    · simp only [sevStep, if_neg hc, Option.bind_none, sevEnd]
theorem rj2_none {x8 : Int} : Ev (fun k => X_several.j2 k l (i : Int) 0 x8) ((0, 0) : Int × Int) := by
  refine Ev.step (fun k => rfl) ?_
  simp only [X_several.j2]
  refine Ev.pos trivial (Ev.step (fun k => rfl) ?_)
  simp only [X_several.j3]
  exact Ev.pos trivial (Ev.now _)
theorem rj2_some (ok : OkL l) {n : Nat} (h2 : 2 ≤ n) (h4 : n ≤ 4) (hi : i < l.length) {x : Int} (hx0 : 0 ≤ x) (hx1 : x < 32) {r : Int × Int}
    (hr : r = if n - 1 ≤ (l.drop (i + 1)).length then sevEnd (leastOf n) n (sevTail x ((l.drop (i + 1)).take (n - 1))) else (0, 0)) : Ev (fun k => X_several.j2 k l (i : Int) (n : Int) x) r := by
  have hsz := ok.size
  subst hr
  rw [List.length_drop]
  refine Ev.step (fun k => rfl) ?_
  simp only [X_several.j2]
  rw [w64 (n := (l.length : Int) - n) (by omega) (by omega)]
  refine Ev.neg (by omega) (Ev.step (fun k => rfl) ?_)
  simp only [X_several.j3]
  by_cases h : i + n ≤ l.length
  · rw [if_pos (by omega)]
    refine Ev.neg (by simp; omega) ?_
    exact rsev_loop ok h2 h4 h (n - 1) 1 (by omega) (by omega) x hx0 (by simpa using hx1)
  · rw [if_neg (by omega)]
    exact Ev.pos (by simp; omega) (Ev.now _)
theorem sevTail_ge : ∀ (l : List Int) (r x : Int), 0 ≤ r → sevTail r l = some x → r * 64 ^ l.length ≤ x
  | [], r, x, h0, h => by
    simp only [sevTail, List.foldlM_nil] at h
    cases h
    simp
  | c :: l, r, x, h0, h => by
    simp only [sevTail, List.foldlM_cons] at h
    cases hs : sevStep r c with
    | none => simp [hs] at h
    | some y =>
      simp only [hs, Option.bind_eq_bind, Option.bind_some] at h
      have hy : r * 64 ≤ y := by
        unfold sevStep at hs
        split at hs
        · cases hs; omega
        · cases hs
      have ih := sevTail_ge l y x (by omega) h
      rw [List.length_cons, Int.pow_succ]
      have hp : (0 : Int) ≤ 64 ^ l.length := Int.pow_nonneg (by decide)
      have := Int.mul_le_mul_of_nonneg_right hy hp
      rw [Int.mul_comm (64 ^ l.length) 64, ← Int.mul_assoc]
      omega
theorem rsev_ev (ok : OkL l) (hi : i < l.length) : Ev (fun k => X_several.f k l (i : Int)) (sevOf (l.drop i)) := by
  have hb := ok.at_ hi
  have hsz := ok.size
  simp only [X_several.f]
  rw [rd_nat]
  refine Ev.pos (by omega) (Ev.pos (by omega) ?_)
  have hd : l.drop i = l.getD i 0 :: l.drop (i + 1) := by
    rw [List.drop_eq_getElem_cons hi, List.getD_eq_getElem?_getD, List.getElem?_eq_getElem hi]
    rfl
  rw [hd]
  generalize l.getD i 0 = c at *
  have j1f : ¬ c ≥ 240 → Ev (fun k => X_several.j1 k l (i : Int) c 0 0 false) ((0, 0) : Int × Int) := fun h => by
    refine Ev.step (fun k => rfl) ?_
    simp only [X_several.j1]
    exact Ev.neg (by simp) (Ev.neg h rj2_none)
  simp only [sevOf]
  by_cases h194 : c ≥ 194
  · refine Ev.pos h194 (Ev.step (fun k => rfl) ?_)
    simp only [X_several.j0]
    by_cases h223 : c ≤ 223
    · rw [if_pos (by omega)]
      refine Ev.pos (decide_eq_true h223) ?_
      rw [and31 (by omega) (by omega), w64 (by omega) (by omega)]
      exact rj2_some ok (n := 2) (by omega) (by omega) hi (by omega) (by omega) rfl
    · rw [if_neg (by omega)]
      refine Ev.neg (by simp; omega) (Ev.pos (by omega) (Ev.step (fun k => rfl) ?_))
      simp only [X_several.j1]
      by_cases h239 : c ≤ 239
      · rw [if_pos (by omega)]
        refine Ev.pos (decide_eq_true h239) ?_
        rw [and15 (by omega) (by omega), w64 (by omega) (by omega)]
        exact rj2_some ok (n := 3) (by omega) (by omega) hi (by omega) (by omega) rfl
      · rw [if_neg (by omega)]
        refine Ev.neg (by simp; omega) (Ev.pos (by omega) ?_)
        by_cases h244 : c ≤ 244
        · rw [if_pos (by omega)]
          refine Ev.pos h244 ?_
          rw [and7 (by omega) (by omega), w64 (by omega) (by omega)]
          exact rj2_some ok (n := 4) (by omega) (by omega) hi (by omega) (by omega) rfl
        · refine Ev.neg h244 (Ev.is rj2_none ?_)
          by_cases h247 : c < 248
          · rw [if_pos (by omega)]
            split
            · rename_i h3
              cases ht : sevTail (c - 240) ((l.drop (i + 1)).take 3) with
              | none => rfl
              | some x =>
                have := sevTail_ge _ _ _ (by omega) ht
                rw [List.length_take, Nat.min_eq_left h3] at this
                simp only [sevEnd, sevMay, Bool.and_eq_true, Bool.or_eq_true, decide_eq_true_eq]
                rw [if_neg (by omega)]
            · rfl
          · rw [if_neg (by omega)]
  · refine Ev.neg h194 (Ev.step (fun k => rfl) ?_)
    simp only [X_several.j0]
    refine Ev.neg (by simp) (Ev.neg (by omega) (Ev.is (j1f (by omega)) ?_))
    by_cases h192 : 192 ≤ c
    · rw [if_pos (by omega)]
      split
      · rename_i h1
        cases ht : sevTail (c - 192) ((l.drop (i + 1)).take 1) with
        | none => rfl
        | some x =>
          have hx : x < 128 := by
            obtain ⟨y, t, hyt⟩ : ∃ y t, l.drop (i + 1) = y :: t := by
              cases hh : l.drop (i + 1) with
              | nil => rw [hh] at h1; simp at h1
              | cons y t => exact ⟨y, t, rfl⟩
            rw [hyt, List.take_succ_cons, List.take_zero] at ht
            simp only [sevTail, List.foldlM_cons, List.foldlM_nil, sevStep] at ht
            split at ht
            · cases ht; omega
            · cases ht
          simp only [sevEnd]
          rw [if_neg (by omega)]
      · rfl
    · rw [if_neg (by omega), if_neg (by omega), if_neg (by omega)]
end
end Go.Proofs.Ytiibjehnlphabaa

end

section
namespace Go.Proofs.Ytiibjehnlphabaa
open Go.RowKit Go.Proofs.YtiibjehnlphabaaW.PrintWords Go.Proofs.YtiibjehnlphabaaW.PrintMore Q
set_option linter.unusedVariables false
set_option linter.unusedSimpArgs false

theorem rnext_ev {l : List Int} (ok : OkL l) (i : Nat) : Ev (fun k => X_Next.f k l (i : Int)) (rn l i, (sz l i : Int)) := by
  simp only [X_Next.f]
  refine Ev.neg (by omega) (Ev.step (fun k => rfl) ?_)
  simp only [X_Next.j0]
  by_cases hi : i < l.length
  · refine Ev.neg (by simp; omega) (Ev.bind (rsev_ev ok hi) ?_)
    have hc := sev_cast l i
    by_cases hs : 0 < sev l i
    · refine Ev.pos (by omega) (Ev.is (Ev.now _) ?_)
      simp only [rn, sz, if_pos hi, if_pos hs, hc]
    · refine Ev.neg (by omega) (Ev.pos (by omega) (Ev.pos (by omega) ?_))
      rw [rd_nat]
      have hb := ok.at_ hi
      by_cases h128 : l.getD i 0 < 128
      · refine Ev.pos h128 (Ev.is (Ev.now _) ?_)
        simp only [rn, sz, if_pos hi, if_neg hs, if_pos h128]
        rw [w64 (by omega) (by omega)]
        rfl
      · refine Ev.neg h128 (Ev.is (Ev.now _) ?_)
        simp only [rn, sz, if_pos hi, if_neg hs, if_neg h128]
        rfl
  · refine Ev.pos (by simp; omega) (Ev.is (Ev.now _) ?_)
    simp only [rn, sz, if_neg hi]
    rfl
theorem rclass_ev (r : Int) : Ev (fun k => X_Class.f k r) (cls r) := by
  simp only [X_Class.f]
  have tail : ∀ b : Bool, (b = true ↔ r = 9 ∨ r = 10 ∨ r = 13 ∨ r = 32) → Ev (fun k => X_Class.j0 k r b) (cls r) := by
    intro b hb
    refine Ev.step (fun k => rfl) ?_
    simp only [X_Class.j0]
    unfold cls
    by_cases h0 : r = 9 ∨ r = 10 ∨ r = 13 ∨ r = 32
    · rw [if_pos h0]
      exact Ev.pos (hb.2 h0) (Ev.now _)
    · rw [if_neg h0]
      refine Ev.neg (fun h => h0 (hb.1 h)) ?_
      by_cases h1 : 97 ≤ r <;> by_cases h2 : r ≤ 122 <;> by_cases h3 : 65 ≤ r <;> by_cases h4 : r ≤ 90 <;> by_cases h5 : 48 ≤ r <;> by_cases h6 : r ≤ 57 <;> by_cases h7 : r = 95 <;> by_cases h8 : 127 < r
      all_goals first
        | (exfalso; omega)
        | (refine Ev.is (Ev.now _) ?_; simp [h1, h2, h3, h4, h5, h6, h7, h8]; done)
        | (simp [h1, h2, h3, h4, h5, h6, h7, h8]; exact Ev.now _)
  by_cases a : r = 9
  · exact Ev.pos a (tail true (by simp [a]))
  · refine Ev.neg a ?_
    by_cases b : r = 10
    · exact Ev.pos b (tail true (by simp [b]))
    · refine Ev.neg b ?_
      by_cases c : r = 13
      · exact Ev.pos c (tail true (by simp [c]))
      · exact Ev.neg c (tail (r == 32) (by simp [a, b, c]))
theorem rsize_ev {l : List Int} (ok : OkL l) (i : Nat) : Ev (fun k => Z_size.f k l (i : Int)) (sz l i : Int) := by
  simp only [Z_size.f]
  exact Ev.bind (rnext_ev ok i) (Ev.now _)
theorem rkls_ev {l : List Int} (ok : OkL l) (i : Nat) : Ev (fun k => Z_class.f k l (i : Int)) (kls l i) := by
  simp only [Z_class.f]
  exact Ev.bind (rnext_ev ok i) (Ev.bind (rclass_ev _) (Ev.now _))
theorem rlast_ev {l : List Int} (ok : OkL l) {i : Nat} (hi : i ≤ l.length) : Ev (fun k => X_Last.f k l (i : Int)) (lastSz l i : Int) := by
  have hsz := ok.size
  simp only [X_Last.f]
  by_cases h1 : i < 1
  · refine Ev.pos (by omega) (Ev.step (fun k => rfl) ?_)
    simp only [X_Last.j0]
    refine Ev.pos trivial (Ev.is (Ev.now _) ?_)
    unfold lastSz
    rw [if_pos (Or.inl h1)]
    rfl
  · refine Ev.neg (by omega) (Ev.step (fun k => rfl) ?_)
    simp only [X_Last.j0]
    refine Ev.neg (by simp; omega) ?_
    have h5 : Ev (fun k => X_Last.l0 k l (i : Int) (5 : Int)) 1 := by
      refine Ev.step (fun k => rfl) ?_
      simp only [X_Last.l0]
      refine Ev.neg (by omega) (Ev.step (fun k => rfl) ?_)
      simp only [X_Last.j2]
      exact Ev.neg (by simp) (Ev.now _)
    have step : ∀ (n : Nat) (r : Int), 2 ≤ n → n ≤ 4 → (n ≤ i → ¬ sev l (i - n) = n → Ev (fun k => X_Last.l0 k l (i : Int) ((n + 1 : Nat) : Int)) r) → (¬ n ≤ i → r = 1) →
        Ev (fun k => X_Last.l0 k l (i : Int) (n : Int)) (if n ≤ i ∧ sev l (i - n) = n then (n : Int) else r) := by
      intro n r h2 h4 hr hr1
      refine Ev.step (fun k => rfl) ?_
      simp only [X_Last.l0]
      refine Ev.pos (by omega) (Ev.step (fun k => rfl) ?_)
      simp only [X_Last.j2]
      by_cases hni : n ≤ i
      · refine Ev.pos (by simp; omega) ?_
        rw [w64 (n := (i : Int) - n) (by omega) (by omega), w64 (n := (n : Int) + 1) (by omega) (by omega), show (i : Int) - (n : Int) = ((i - n : Nat) : Int) by omega]
        refine Ev.bind (rsev_ev ok (by omega)) ?_
        have hc := sev_cast l (i - n)
        by_cases hs : sev l (i - n) = n
        · rw [if_pos ⟨hni, hs⟩]
          exact Ev.pos (by omega) (Ev.now _)
        · rw [if_neg (by omega)]
          exact Ev.neg (by omega) (hr hni hs)
      · rw [if_neg (by omega), hr1 hni]
        exact Ev.neg (by simp; omega) (Ev.now _)
    have k4 := step 4 1 (by omega) (by omega) (fun _ _ => h5) (fun _ => rfl)
    have k3 := step 3 _ (by omega) (by omega) (fun _ _ => k4) (fun h => by rw [if_neg (by omega)])
    have k2 := step 2 _ (by omega) (by omega) (fun _ _ => k3) (fun h => by rw [if_neg (by omega), if_neg (by omega)])
    refine Ev.is k2 ?_
    simp only [lastSz, if_neg (show ¬ (i < 1 ∨ l.length < i) by omega)]
    by_cases a2 : 2 ≤ i ∧ sev l (i - 2) = 2
    · simp only [if_pos a2]
    · by_cases a3 : 3 ≤ i ∧ sev l (i - 3) = 3
      · simp only [if_neg a2, if_pos a3]
      · by_cases a4 : 4 ≤ i ∧ sev l (i - 4) = 4
        · simp only [if_neg a2, if_neg a3, if_pos a4]
        · simp only [if_neg a2, if_neg a3, if_neg a4]; rfl
theorem rbegins_ev {l : List Int} (ok : OkL l) {i : Nat} (hi : i ≤ l.length) : Ev (fun k => X_Begins.f k l (i : Int)) (begins l i) := by
  have hsz := ok.size
  simp only [X_Begins.f]
  refine Ev.neg (by omega) (Ev.step (fun k => rfl) ?_)
  simp only [X_Begins.j0]
  refine Ev.neg (by simp; omega) ?_
  by_cases hlt : i < l.length
  · have done : ∀ n : Nat, 1 ≤ n → ¬ (n ≤ 3 ∧ n ≤ i) → Ev (fun k => X_Begins.l0 k l (i : Int) (n : Int)) true := by
      intro n h1 hn
      refine Ev.step (fun k => rfl) ?_
      simp only [X_Begins.l0]
      by_cases h3 : n ≤ 3
      · refine Ev.pos (by omega) (Ev.neg (by omega) (Ev.step (fun k => rfl) ?_))
        simp only [X_Begins.j2]
        exact Ev.neg (by simp) (Ev.now _)
      · refine Ev.neg (by omega) (Ev.step (fun k => rfl) ?_)
        simp only [X_Begins.j2]
        exact Ev.neg (by simp) (Ev.now _)
    have step : ∀ (n : Nat) (r : Bool), 1 ≤ n → n ≤ 3 → Ev (fun k => X_Begins.l0 k l (i : Int) ((n + 1 : Nat) : Int)) r → (i < n → r = true) → Ev (fun k => X_Begins.l0 k l (i : Int) (n : Int)) ((decide (i < n) || decide (sev l (i - n) ≤ n)) && r) := by
      intro n r h1 h3 hr hr1
      by_cases hni : n ≤ i
      · refine Ev.step (fun k => rfl) ?_
        simp only [X_Begins.l0]
        refine Ev.pos (by omega) (Ev.pos (by omega) (Ev.step (fun k => rfl) ?_))
        simp only [X_Begins.j2]
        refine Ev.pos (by simp; omega) ?_
        rw [w64 (n := (i : Int) - n) (by omega) (by omega), w64 (n := (n : Int) + 1) (by omega) (by omega), show (i : Int) - (n : Int) = ((i - n : Nat) : Int) by omega]
        refine Ev.bind (rsev_ev ok (by omega)) ?_
        have hc := sev_cast l (i - n)
        by_cases hs : sev l (i - n) ≤ n
        · exact Ev.neg (by omega) (Ev.is hr (by simp [hs]))
        · exact Ev.pos (by omega) (Ev.is (Ev.now _) (by simp [hs, show ¬ i < n by omega]))
      · have := hr1 (by omega)
        exact Ev.is (done n h1 (by omega)) (by simp [show i < n by omega, this])
    have s3 := step 3 true (by omega) (by omega) (done 4 (by omega) (by omega)) (fun _ => rfl)
    have s2 := step 2 _ (by omega) (by omega) s3 (fun h => by simp [show i < 3 by omega])
    have s1 := step 1 _ (by omega) (by omega) s2 (fun h => by simp [show i < 3 by omega, show i < 2 by omega])
    refine Ev.is s1 ?_
    unfold begins
    simp only [hi, decide_true, Bool.true_and, Bool.and_true, Bool.and_assoc]
  · obtain rfl : i = l.length := by omega
    rw [begins_len]
    refine Ev.step (fun k => rfl) ?_
    simp only [X_Begins.l0]
    refine Ev.pos (by omega) ?_
    by_cases h1 : (1 : Int) ≤ (l.length : Int)
    · refine Ev.pos h1 (Ev.step (fun k => rfl) ?_)
      simp only [X_Begins.j2]
      exact Ev.neg (by simp) (Ev.now _)
    · refine Ev.neg h1 (Ev.step (fun k => rfl) ?_)
      simp only [X_Begins.j2]
      exact Ev.neg (by simp) (Ev.now _)
theorem rplaceL_ev {l : List Int} (ok : OkL l) : ∀ i, i ≤ l.length → Ev (fun k => Z_place.l0 k l (i : Int)) (placeN l i : Int)
  | 0, hi => by
    refine Ev.step (fun k => rfl) ?_
    simp only [Z_place.l0]
    exact Ev.bind (rbegins_ev ok hi) (Ev.pos (begins_zero l) (Ev.now _))
  | n + 1, hi => by
    have hsz := ok.size
    refine Ev.step (fun k => rfl) ?_
    simp only [Z_place.l0]
    refine Ev.bind (rbegins_ev ok hi) ?_
    simp only [placeN]
    by_cases hb : begins l (n + 1) = true
    · rw [if_pos hb]
      exact Ev.pos hb (Ev.now _)
    · rw [if_neg hb]
      refine Ev.neg hb ?_
      rw [w64 (by omega) (by omega), show (((n + 1 : Nat) : Int) - 1) = (n : Int) by omega]
      exact rplaceL_ev ok n (by omega)
theorem rplace_ev {l : List Int} (ok : OkL l) (a : Int) : Ev (fun k => Z_place.f k l a) (place l a : Int) := by
  simp only [Z_place.f]
  have e : mn (mx a 0) (l.length : Int) = ((min a.toNat l.length : Nat) : Int) := by unfold mx mn; split <;> split <;> omega
  rw [e]
  exact rplaceL_ev ok _ (by omega)
theorem rstart_ev {l : List Int} (ok : OkL l) : ∀ {i : Nat}, i ≤ l.length → Ev (fun k => Z_start.f k l (i : Int)) (start l i : Int)
  | 0, h => by
    simp only [Z_start.f]
    refine Ev.step (fun k => rfl) ?_
    simp only [Z_start.l0]
    exact Ev.neg (by omega) (Ev.now _)
  | n + 1, h => by
    have hsz := ok.size
    have ih := rstart_ev ok (i := n) (by omega)
    simp only [Z_start.f] at ih ⊢
    refine Ev.step (fun k => rfl) ?_
    simp only [Z_start.l0]
    rw [w64 (by omega) (by omega), show (((n + 1 : Nat) : Int) - 1) = (n : Int) by omega, rd_nat]
    refine Ev.pos (by omega) (Ev.pos (by omega) (Ev.pos (by omega) ?_))
    simp only [start]
    by_cases h10 : l.getD n 0 = 10
    · rw [if_pos h10]
      exact Ev.pos h10 (Ev.now _)
    · rw [if_neg h10]
      exact Ev.neg h10 ih
theorem fin_step {l : List Int} {i : Nat} (h : i < l.length) : fin l i = if l.getD i 0 = 10 then i else fin l (i + 1) := by
  have hd : l.drop i = l.getD i 0 :: l.drop (i + 1) := by
    rw [List.drop_eq_getElem_cons h, List.getD_eq_getElem?_getD, List.getElem?_eq_getElem h]
    rfl
  unfold fin tillNl
  rw [hd, List.takeWhile_cons]
  by_cases h10 : l.getD i 0 = 10
  · have : (l.getD i 0 != 10) = false := by rw [h10]; rfl
    rw [if_pos h10, this]; rfl
  · rw [if_neg h10]
    have : (l.getD i 0 != 10) = true := by simp only [bne_iff_ne]; exact h10
    rw [this]
    simp only [if_true, List.length_cons]
    omega
theorem fin_out {l : List Int} {i : Nat} (h : ¬ i < l.length) : fin l i = i := by
  unfold fin tillNl
  rw [List.drop_eq_nil_of_le (by omega)]
  rfl
theorem rendL_ev {l : List Int} (ok : OkL l) : ∀ (n i : Nat), l.length - i ≤ n → i ≤ l.length → Ev (fun k => Z_end.l0 k l (i : Int)) (fin l i : Int)
  | 0, i, hn, hi => by
    rw [fin_out (by omega)]
    refine Ev.step (fun k => rfl) ?_
    simp only [Z_end.l0]
    exact Ev.neg (by omega) (Ev.now _)
  | n + 1, i, hn, hi => by
    have hsz := ok.size
    refine Ev.step (fun k => rfl) ?_
    simp only [Z_end.l0]
    by_cases hlt : i < l.length
    · rw [fin_step hlt, rd_nat]
      refine Ev.pos (by omega) (Ev.pos (by omega) ?_)
      by_cases h10 : l.getD i 0 = 10
      · rw [if_pos h10]
        exact Ev.pos h10 (Ev.now _)
      · rw [if_neg h10, w64 (by omega) (by omega)]
        exact Ev.neg h10 (rendL_ev ok n (i + 1) (by omega) (by omega))
    · rw [fin_out hlt]
      exact Ev.neg (by omega) (Ev.now _)
theorem rend_ev {l : List Int} (ok : OkL l) {i : Nat} (hi : i ≤ l.length) : Ev (fun k => Z_end.f k l (i : Int)) (fin l i : Int) := by
  simp only [Z_end.f]
  exact rendL_ev ok _ _ (Nat.le_refl _) hi
theorem rRest_ev {l : List Int} (ok : OkL l) (a : Int) : Ev (fun k => Z_Rest.f k l a) (rest l (place l a) : Int) := by
  have hsz := ok.size
  have hp := place_le l a
  simp only [Z_Rest.f]
  refine Ev.bind (rplace_ev ok a) (Ev.bind (rend_ev ok hp) ?_)
  generalize place l a = i at *
  unfold rest
  by_cases h1 : i = fin l i
  · refine Ev.pos (by omega) (Ev.bind (rstart_ev ok hp) ?_)
    by_cases h2 : start l i < i
    · rw [if_pos ⟨h1, h2⟩]
      have := lastSz_pos (l := l) (i := i) (by omega) hp
      exact Ev.pos (by omega) (Ev.bind (rlast_ev ok hp) (Ev.is (Ev.now _) (by rw [w64 (by omega) (by omega)]; omega)))
    · rw [if_neg (by omega)]
      exact Ev.neg (by omega) (Ev.now _)
  · rw [if_neg (by omega)]
    exact Ev.neg (by omega) (Ev.now _)
theorem fin_begins {l : List Int} {i : Nat} (hi : i ≤ l.length) : begins l (fin l i) = true := by
  by_cases h : fin l i < l.length
  · exact begins_at h (by rw [fin_nl h]; omega)
  · have := (fin_le hi).2
    rw [show fin l i = l.length by omega]
    exact begins_len l
theorem rRestB_ev {l : List Int} (ok : OkL l) {i : Nat} (hb : begins l i = true) : Ev (fun k => Z_Rest.f k l (i : Int)) (rest l i : Int) := by
  have := rRest_ev ok (i : Int)
  rwa [place_self hb] at this
theorem rfirstL_ev {l : List Int} (ok : OkL l) (tt : Nat) (htt : tt ≤ l.length) (hbt : begins l tt = true) : ∀ (n i : Nat), l.length - i ≤ n → i ≤ l.length →
    Ev (fun k => Z_First.l0 k l (tt : Int) (i : Int)) (((let q := whileOn (fun j => decide (j < tt) && decide (kls l j = 0)) l i; if q < tt then q else rest l tt) : Nat) : Int) := by
  intro n
  have hsz := ok.size
  induction n with
  | zero =>
    intro i h hi
    refine Ev.step (fun k => rfl) ?_
    simp only [Z_First.l0]
    rw [whileOn_neg (by omega), if_neg (by omega)]
    exact Ev.neg (by omega) (Ev.bind (rRestB_ev ok hbt) (Ev.now _))
  | succ n ih =>
    intro i h hi
    refine Ev.step (fun k => rfl) ?_
    simp only [Z_First.l0]
    by_cases hlt : i < tt
    · refine Ev.pos (by omega) (Ev.bind (rkls_ev ok i) ?_)
      by_cases hk : kls l i = 0
      · have hg := on_gt (show i < l.length by omega)
        refine Ev.pos hk (Ev.bind (rsize_ev ok i) ?_)
        rw [whileOn_pos (by omega) (by simp [hlt, hk])]
        unfold on at hg
        rw [w64 (by omega) (by omega), show (i : Int) + (sz l i : Int) = (on l i : Int) by unfold on; omega]
        exact ih _ (by unfold on; omega) (by unfold on; omega)
      · rw [whileOn_neg (by simp [hk]), if_pos hlt]
        exact Ev.neg hk (Ev.now _)
    · rw [whileOn_neg (by simp [hlt]), if_neg hlt]
      exact Ev.neg (by omega) (Ev.bind (rRestB_ev ok hbt) (Ev.now _))
theorem rFirst_ev {l : List Int} (ok : OkL l) (a : Int) : Ev (fun k => Z_First.f k l a) (first l (place l a) : Int) := by
  have hp := place_le l a
  simp only [Z_First.f]
  refine Ev.bind (rplace_ev ok a) (Ev.bind (rend_ev ok hp) (Ev.bind (rstart_ev ok hp) ?_))
  exact rfirstL_ev ok _ (fin_le hp).2 (fin_begins hp) _ _ (Nat.le_refl _) (Nat.le_trans (start_le l _) hp)
theorem rcountL_ev {l : List Int} (ok : OkL l) : ∀ (f i : Nat) (c : Nat), l.length - i ≤ f → i ≤ l.length → c ≤ i → Ev (fun k => X_Count.l0 k l (c : Int) (i : Int)) (((c + cnt l f i : Nat)) : Int)
  | 0, i, c, h, hi, hc => by
    refine Ev.step (fun k => rfl) ?_
    simp only [X_Count.l0]
    exact Ev.neg (by omega) (Ev.is (Ev.now _) (by simp [cnt]))
  | f + 1, i, c, h, hi, hc => by
    have hsz := ok.size
    refine Ev.step (fun k => rfl) ?_
    simp only [X_Count.l0]
    by_cases hlt : i < l.length
    · have hg := on_gt hlt
      refine Ev.pos (by omega) (Ev.bind (rnext_ev ok i) ?_)
      have e : wrap64 ((i : Int) + ((rn l i, (sz l i : Int)) : Int × Int).2) = (on l i : Int) := by
        unfold on at *
        rw [w64 (by simp only []; omega) (by simp only []; omega)]
        simp
      rw [e, w64 (by omega) (by omega), show ((c : Int) + 1) = ((c + 1 : Nat) : Int) by omega]
      refine Ev.is (rcountL_ev ok f (on l i) (c + 1) (by omega) (by omega) (by omega)) ?_
      simp only [cnt, if_pos hlt]
      omega
    · refine Ev.neg (by omega) (Ev.is (Ev.now _) ?_)
      simp only [cnt, if_neg hlt]
      rfl
theorem rcount_ev {l : List Int} (ok : OkL l) : Ev (fun k => X_Count.f k l) (count l : Int) := by
  simp only [X_Count.f]
  have := rcountL_ev ok l.length 0 0 (by omega) (by omega) (by omega)
  simpa [count] using this
theorem rColumn_ev {l : List Int} (ok : OkL l) (a : Int) : Ev (fun k => Z_Column.f k l a) (column l (place l a) : Int) := by
  simp only [Z_Column.f]
  have hp := place_le l a
  have hs := start_le l (place l a)
  refine Ev.bind (rplace_ev ok a) (Ev.bind (rstart_ev ok hp) (Ev.pos (by omega) (Ev.pos (by omega) (Ev.pos (by omega) ?_))))
  exact Ev.bind (rcount_ev ((ok.take _).drop _)) (Ev.now _)
theorem rplaceColL_ev {l : List Int} (ok : OkL l) (tt : Nat) (htt : tt ≤ l.length) (c : Int) (hc : c ≤ 9223372036854775807) : ∀ (n i : Nat) (j : Int), 0 ≤ j → l.length - i ≤ n → i ≤ l.length →
    Ev (fun k => Z_Place.l0 k l c (i : Int) (tt : Int) j) (along l tt (c - j).toNat i : Int) := by
  intro n
  have hsz := ok.size
  induction n with
  | zero =>
    intro i j hj h hi
    refine Ev.step (fun k => rfl) ?_
    simp only [Z_Place.l0]
    have e : along l tt (c - j).toNat i = i := by
      cases (c - j).toNat with
      | zero => rfl
      | succ m => simp only [along]; rw [if_neg (by omega)]
    rw [e]
    by_cases h0 : j < c
    · exact Ev.pos h0 (Ev.neg (by omega) (Ev.now _))
    · exact Ev.neg h0 (Ev.now _)
  | succ n ih =>
    intro i j hj h hi
    refine Ev.step (fun k => rfl) ?_
    simp only [Z_Place.l0]
    by_cases h0 : j < c
    · obtain ⟨m, hm⟩ : ∃ m, (c - j).toNat = m + 1 := ⟨(c - j).toNat - 1, by omega⟩
      rw [hm]
      simp only [along]
      refine Ev.pos h0 ?_
      by_cases hlt : i < tt
      · have hg := on_gt (show i < l.length by omega)
        rw [if_pos hlt]
        refine Ev.pos (by omega) (Ev.bind (rsize_ev ok i) ?_)
        unfold on at hg
        rw [w64 (n := j + 1) (by omega) (by omega), w64 (by omega) (by omega), show (i : Int) + (sz l i : Int) = (on l i : Int) by unfold on; omega]
        have := ih (on l i) (j + 1) (by omega) (by unfold on; omega) (by unfold on; omega)
        rwa [show (c - (j + 1)).toNat = m by omega] at this
      · rw [if_neg hlt]
        exact Ev.neg (by omega) (Ev.now _)
    · rw [show (c - j).toNat = 0 by omega]
      exact Ev.neg h0 (Ev.now _)
theorem rPlace_ev {l : List Int} (ok : OkL l) (a c : Int) (hc : c ≤ 9223372036854775807) : Ev (fun k => Z_Place.f k l a c) (colAt l (place l a) c.toNat : Int) := by
  simp only [Z_Place.f]
  have hp := place_le l a
  refine Ev.bind (rplace_ev ok a) (Ev.bind (rstart_ev ok hp) (Ev.bind (rend_ev ok hp) ?_))
  have := rplaceColL_ev ok (fin l (place l a)) (fin_le hp).2 c hc _ (start l (place l a)) 0 (by omega) (Nat.le_refl _) (Nat.le_trans (start_le l _) hp)
  rwa [Int.sub_zero] at this
end Go.Proofs.Ytiibjehnlphabaa

end

section
namespace Go.Proofs.Ytiibjehnlphabaa
set_option linter.unusedVariables false
set_option linter.unusedSimpArgs false
def upto (l : List Int) (x : Nat) : Nat → Nat → Nat
  | 0, _ => 0
  | f + 1, i => if i < x then upto l x f (on l i) + 1 else 0
theorem along_begins {l : List Int} {q : Nat} (hq : begins l q = true) : ∀ (n i : Nat), begins l i = true → i ≤ q → begins l (along l q n i) = true ∧ i ≤ along l q n i ∧ along l q n i ≤ q
  | 0, i, h, hi => ⟨h, Nat.le_refl _, hi⟩
  | n + 1, i, h, hi => by
    have hql := begins_le hq
    simp only [along]
    split
    · rename_i hlt
      have := on_gt (show i < l.length by omega)
      have := along_begins hq n (on l i) (begins_on h (by omega)) (on_before hq hlt)
      exact ⟨this.1, by omega, this.2.2⟩
    · exact ⟨h, Nat.le_refl _, hi⟩
end Go.Proofs.Ytiibjehnlphabaa

end

section
namespace Go.Proofs.Ytiibjehnlphabaa
set_option linter.unusedVariables false
set_option linter.unusedSimpArgs false
section
variable (l : List Int) (i : Nat) (a : List Int) (c : Int) (op : Bool)
theorem motion_h : motion l i [104] a c op = if start l i < i then some (plain_ (lefts l (start l i) (times c) i)) else none := by simp (decide := true) only [motion, reduceIte]
theorem motion_l : motion l i [108] a c op = if i < (if op then fin l i else rest l (fin l i)) then some (plain_ (along l (if op then fin l i else rest l (fin l i)) (times c) i)) else none := by simp (decide := true) only [motion, reduceIte]
theorem motion_j : motion l i [106] a c op = (below l (times c) i).map fun p => byLn (rest l (colAt l p (column l i))) := by simp (decide := true) only [motion, reduceIte]
theorem motion_k : motion l i [107] a c op = (above l (times c) i).map fun p => byLn (rest l (colAt l p (column l i))) := by simp (decide := true) only [motion, reduceIte]
theorem motion_0 : motion l i [48] a c op = some (plain_ (start l i)) := by simp (decide := true) only [motion, reduceIte]
theorem motion_caret : motion l i [94] a c op = some (plain_ (first l i)) := by simp (decide := true) only [motion, reduceIte]
theorem motion_bar : motion l i [124] a c op = some (plain_ (rest l (colAt l i (times c - 1)))) := by simp (decide := true) only [motion, reduceIte]
theorem motion_dollar : motion l i [36] a c op = (below l (times c - 1) i).map fun p => incl (rest l (fin l p)) := by simp (decide := true) only [motion, reduceIte]
theorem motion_w : motion l i [119] a c op = if i < l.length then (if op then some (plain_ (wordsN l op (times c) i)) else if rest l (wordsN l op (times c) i) = i then none else some (plain_ (rest l (wordsN l op (times c) i)))) else none := by simp (decide := true) only [motion, reduceIte]
theorem motion_e : motion l i [101] a c op = (endsN l (times c) i).map incl := by simp (decide := true) only [motion, reduceIte]
theorem motion_b : motion l i [98] a c op = if 0 < i then some (plain_ (backsN l (times c) i)) else none := by simp (decide := true) only [motion, reduceIte]
theorem motion_G : motion l i [71] a c op = some (byLn (first l (if c < 1 then l.length else lineN l (c.toNat - 1) 0))) := by simp (decide := true) only [motion, reduceIte]
theorem motion_gg : motion l i [103, 103] a c op = some (byLn (first l (lineN l (c.toNat - 1) 0))) := by simp (decide := true) only [motion, reduceIte]
theorem motion_f : motion l i [102] a c op = (ahead l a (times c) i).map incl := by simp (decide := true) only [motion, reduceIte]
theorem motion_t : motion l i [116] a c op = (ahead l a (times c) i).map fun p => incl (p - lastSz l p) := by simp (decide := true) only [motion, reduceIte]
theorem motion_F : motion l i [70] a c op = (behind l a (times c) i).map plain_ := by simp (decide := true) only [motion, reduceIte]
theorem motion_T : motion l i [84] a c op = (behind l a (times c) i).map fun p => plain_ (on l p) := by simp (decide := true) only [motion, reduceIte]
theorem motion_down : motion l i [125] a c op = if (if op then paraN l (times c) i else rest l (paraN l (times c) i)) = i then none else some (plain_ (if op then paraN l (times c) i else rest l (paraN l (times c) i))) := by simp (decide := true) only [motion, reduceIte]
theorem motion_up : motion l i [123] a c op = if paraBackN l (times c) i = i then none else some (plain_ (paraBackN l (times c) i)) := by simp (decide := true) only [motion, reduceIte]
theorem motion_pair : motion l i [37] a c op = (pair l i).map incl := by simp (decide := true) only [motion, reduceIte]
end
theorem times_pos (c : Int) : 1 ≤ times c := by unfold times; omega
theorem fin_self {l : List Int} {p : Nat} (hp : p ≤ l.length) (h : ¬ p < fin l p) : p = l.length ∨ l.getD p 0 = 10 := by
  have h1 := fin_le hp
  have e : fin l p = p := by omega
  rcases Nat.lt_or_ge p l.length with hlt | hge
  · have := fin_nl (l := l) (i := p) (by omega)
    rw [e] at this
    exact .inr this
  · exact .inl (by omega)
theorem lt_fin {l : List Int} {p : Nat} (hp : p < l.length) (h : l.getD p 0 ≠ 10) : p < fin l p := by
  rcases Nat.lt_or_ge p (fin l p) with hlt | hge
  · exact hlt
  · rcases fin_self (Nat.le_of_lt hp) (by omega) with h1 | h1
    · omega
    · exact absurd h1 h
theorem first_same {l : List Int} {p q : Nat} (h1 : start l p = start l q) (h2 : fin l p = fin l q) : first l p = first l q := by
  unfold first
  rw [h1, h2]
theorem colAt_spec {l : List Int} {p c : Nat} (hp : p ≤ l.length) : begins l (colAt l p c) = true ∧ start l p ≤ colAt l p c ∧ colAt l p c ≤ fin l p :=
  along_begins (fin_begins hp) c _ (start_begins hp) (by have := start_le l p; have := fin_le hp; omega)
end Go.Proofs.Ytiibjehnlphabaa

end

section
namespace Go.Proofs.Ytiibjehnlphabaa
set_option linter.unusedVariables false
set_option linter.unusedSimpArgs false
theorem whileOn_begins {p : Nat → Bool} {l : List Int} {i : Nat} (hb : begins l i = true) : begins l (whileOn p l i) = true :=
  whileOn_ind (fun j => begins l j = true) (fun j h hl _ => begins_on h hl) _ i (Nat.le_refl _) hb
theorem whileOn_all {p : Nat → Bool} {l : List Int} {i : Nat} (hb : begins l i = true) : ∀ j, begins l j = true → i ≤ j → j < whileOn p l i → p j = true := by
  have := whileOn_ind (p := p) (l := l) (fun x => begins l x = true ∧ i ≤ x ∧ ∀ j, begins l j = true → i ≤ j → j < x → p j = true)
    (fun x ⟨h1, h2, h3⟩ hx hp => by
      have hg := on_gt hx
      refine ⟨begins_on h1 hx, by omega, fun j hj hij hjx => ?_⟩
      rcases Nat.lt_trichotomy j x with h | h | h
      · exact h3 j hj hij h
      · rw [h]; exact hp
      · have := on_before hj h; omega) _ i (Nat.le_refl _) ⟨hb, Nat.le_refl _, fun j _ h1 h2 => by omega⟩
  exact this.2.2
theorem prev_ge {l : List Int} {m x : Nat} (hm : begins l m = true) (hx : begins l x = true) (h : m < x) : m ≤ x - lastSz l x ∧ x - lastSz l x < x ∧ begins l (x - lastSz l x) = true ∧ on l (x - lastSz l x) = x := by
  obtain ⟨h1, h2, h3, h4⟩ := last_inv hx (by omega)
  refine ⟨?_, by omega, h1, h2⟩
  rcases Nat.lt_or_ge (x - lastSz l x) m with hlt | hge
  · have := on_before hm hlt
    omega
  · exact hge
theorem word0_begins {l : List Int} {p : Nat} (hb : begins l p = true) : begins l (word0 l p) = true := by
  unfold word0
  split
  · exact whileOn_begins hb
  · exact hb
end Go.Proofs.Ytiibjehnlphabaa

end

section
namespace Go.Proofs.Ytiibjehnlphabaa
set_option linter.unusedVariables false
set_option linter.unusedSimpArgs false
theorem start_begins' {l : List Int} {s : Nat} (h : isStart l s) : begins l s = true := by
  have := start_begins (l := l) (i := s) h.1
  rwa [isStart_self h] at this
theorem bracketIn_some : ∀ {m : List Int} {k : Nat}, bracketIn m = some k → k < m.length ∧ isBracket (m.getD k 0) = true
  | [], k, h => by cases h
  | c :: m, k, h => by
    simp only [bracketIn] at h
    split at h
    · rename_i hc
      cases h
      exact ⟨by simp, by simpa using hc⟩
    · cases hm : bracketIn m with
      | none => rw [hm] at h; cases h
      | some j =>
        rw [hm] at h
        cases h
        have := bracketIn_some hm
        exact ⟨by simp; omega, by simpa using this.2⟩
theorem getD_cut {l : List Int} {x a k : Nat} (h : a + k < x) : ((l.take x).drop a).getD k 0 = l.getD (a + k) 0 := by
  rw [List.getD_eq_getElem?_getD, List.getElem?_drop, List.getElem?_take, if_pos h, List.getD_eq_getElem?_getD]
theorem isBracket_ne {x : Int} (h : isBracket x = true) : x ≠ 10 ∧ x < 128 := by
  rcases six_cases h with rfl | rfl | rfl | rfl | rfl | rfl <;> decide
theorem bracket_here {l : List Int} {s : Nat} (hs : s < l.length) (h : isBracket (l.getD s 0) = true) : bracketIn ((l.take (fin l s)).drop s) = some 0 := by
  have hf := lt_fin hs (isBracket_ne h).1
  have hl := (fin_le (Nat.le_of_lt hs)).2
  have hlen : ((l.take (fin l s)).drop s).length = fin l s - s := by rw [List.length_drop, List.length_take]; omega
  have h0 := getD_cut (l := l) (x := fin l s) (a := s) (k := 0) (by omega)
  cases hm : (l.take (fin l s)).drop s with
  | nil => rw [hm] at hlen; simp at hlen; omega
  | cons c m =>
    rw [hm] at h0
    simp only [List.getD_cons_zero, Nat.add_zero] at h0
    simp only [bracketIn]
    rw [if_pos (by rw [h0]; exact h)]
theorem pair_both {l : List Int} {s : Nat} {o c : Int} (hs : s < l.length) (hcase : (o = 40 ∧ c = 41) ∨ (o = 91 ∧ c = 93) ∨ (o = 123 ∧ c = 125)) :
    (l.getD s 0 = o → pair l s = deepFrom l o c 0 s) ∧ (l.getD s 0 = c → pair l s = deepTo l o c (s + 1) 0) := by
  constructor
  · intro h
    have hb := bracket_here hs (by rw [h]; rcases hcase with ⟨rfl, rfl⟩ | ⟨rfl, rfl⟩ | ⟨rfl, rfl⟩ <;> decide)
    have := pair_fwd (ch := o) hb h (by rcases hcase with ⟨rfl, rfl⟩ | ⟨rfl, rfl⟩ | ⟨rfl, rfl⟩ <;> decide)
    rw [Nat.add_zero] at this
    rw [this]
    rcases hcase with ⟨rfl, rfl⟩ | ⟨rfl, rfl⟩ | ⟨rfl, rfl⟩ <;> rfl
  · intro h
    have hb := bracket_here hs (by rw [h]; rcases hcase with ⟨rfl, rfl⟩ | ⟨rfl, rfl⟩ | ⟨rfl, rfl⟩ <;> decide)
    have := pair_bwd (ch := c) hb h (by rcases hcase with ⟨rfl, rfl⟩ | ⟨rfl, rfl⟩ | ⟨rfl, rfl⟩ <;> decide)
    rw [Nat.add_zero] at this
    rw [this]
    rcases hcase with ⟨rfl, rfl⟩ | ⟨rfl, rfl⟩ | ⟨rfl, rfl⟩ <;> rfl
theorem pair_here {l : List Int} {a k : Nat} (ha : a ≤ l.length) (h : bracketIn ((l.take (fin l a)).drop a) = some k) : a + k < fin l a ∧ isBracket (l.getD (a + k) 0) = true ∧ pair l a = pair l (a + k) := by
  have hf := fin_le ha
  have hlen : ((l.take (fin l a)).drop a).length = fin l a - a := by rw [List.length_drop, List.length_take]; omega
  obtain ⟨h1, h2⟩ := bracketIn_some h
  rw [hlen] at h1
  rw [getD_cut (by omega)] at h2
  refine ⟨by omega, h2, ?_⟩
  have hb := bracket_here (l := l) (s := a + k) (by omega) h2
  by_cases ho : 0 ≤ opens (l.getD (a + k) 0)
  · rw [pair_fwd h rfl ho, pair_fwd hb rfl ho]
    rfl
  · rw [pair_bwd h rfl ho, pair_bwd hb rfl ho]
    rfl
end Go.Proofs.Ytiibjehnlphabaa

end
