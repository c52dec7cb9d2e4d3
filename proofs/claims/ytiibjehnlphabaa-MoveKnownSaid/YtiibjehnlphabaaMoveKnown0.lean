/- The row of law MoveKnown of chapter 23 holds, for every input that the row names (part 0). Conditions: none. -/
import Derived.Test.YtiibjehnlphabaaRows
import Derived.WalkKit
import Derived.ProofKit
import Derived.OpenShut
import Derived.ShutString
import Derived.ChangeOld
import Derived.Below
import Derived.SizedLaws
import Derived.Test.YtiibjehnlphabaaMB8
section
namespace Go.Proofs.Ytiibjehnlphabaa
open Go.RowKit Go.Proofs.YtiibjehnlphabaaW.PrintWords Go.Proofs.YtiibjehnlphabaaW.PrintMore Q
set_option linter.unusedVariables false
set_option linter.unusedSimpArgs false
def known : List Int := [97, 98, 32, 99, 100, 10, 10, 40, 120, 41, 32, 121]
theorem known_ok : OkL known := ⟨by decide, by decide⟩
theorem known_begin {w w1 w2 : World} {C : Array Value} {fr : Nat × Nat} (hC : C = (known.map (Value.int .u8)).toArray) (hb : Below w.heap.size w w1) (hb2 : Below (w1.alloc (.cells C 5 fr)).heap.size (w1.alloc (.cells C 5 fr)) w2) : Ls w w2 (some ⟨w1.heap.size, 0, none⟩) 12 known [] := by
  have h0 := below_alloc (Below.refl w1.heap.size w1) (.cells C 5 fr)
  have h1 := h0.trans (hb2.mono h0.size)
  exact ⟨(lit_sl w1 hC known_ok (by decide) _ _ rfl).below hb2, hb.trans (h1.mono hb.size), fun p hp => by cases hp⟩
set_option maxRecDepth 100000 in
theorem known_calls (w : World) : Calls Try.prog 3 #[] w fun e w' => e = .returned (.bool true) ∧ Below w.heap.size w w' := by
  have kc := fun (w : World) (C : Array Value) (n c g : Nat) (hg : g = w.heap.size) => Joins.run_convert_bytes_const_at (P := Try.prog) w 23 5 C n c g hg Try.underlying23 Try.underlying5
  have m0 : motion known (place known 3) (⟨#[119]⟩ : ByteArray).toList [] 0 false = some (7, false, false) := by
    rw [Lib.toList_data]
    decide +kernel
  have m1 : motion known (place known 3) (⟨#[119]⟩ : ByteArray).toList [] 0 true = some (5, false, false) := by
    rw [Lib.toList_data]
    decide +kernel
  have m2 : motion known (place known 4) (⟨#[108]⟩ : ByteArray).toList [] 0 false = none := by
    rw [Lib.toList_data]
    decide +kernel
  have m3 : motion known (place known 0) (⟨#[106]⟩ : ByteArray).toList [] 0 false = some (6, false, true) := by
    rw [Lib.toList_data]
    decide +kernel
  have m4 : motion known (place known 7) (⟨#[37]⟩ : ByteArray).toList [] 0 false = some (9, true, false) := by
    rw [Lib.toList_data]
    decide +kernel
  have m5 : motion known (place known 11) (⟨#[98]⟩ : ByteArray).toList [] 0 false = some (9, false, false) := by
    rw [Lib.toList_data]
    decide +kernel
  have m6 : motion known (place known 3) (⟨#[102]⟩ : ByteArray).toList [100] 0 false = some (4, true, false) := by
    rw [Lib.toList_data]
    decide +kernel
  have M := Aside0.mk (And.intro m0 (And.intro m1 (And.intro m2 (And.intro m3 (And.intro m4 (And.intro m5 m6))))))
  clear m0 m1 m2 m3 m4 m5 m6
  go_enter Try.func3, Try.ntmps3
  go_wp2_with fail
  refine (awake_calls w).mono ?_
  rintro e w1 ⟨rfl, hb⟩
  have HB := Aside0.mk hb
  clear hb
  go_wp2_with fail
  refine (Go_calls (l := known) (a := []) (lit_sl w1 (c := 12) rfl known_ok (by decide) _ _ rfl) (nil_sl _) 3 (by omega) (by omega) _ M.out.1).mono ?_
  rintro e w2 ⟨rfl, hb⟩
  simp only [goV, goalV]
  have HS := Aside0.mk (known_begin rfl HB.out hb)
  clear hb
  go_wp2_with fail
  refine (Go_calls (l := known) (a := []) (HS.out.goal _ _ _).sl (nil_sl _) 3 (by omega) (by omega) _ M.out.2.1).mono ?_
  rintro e w3 ⟨rfl, hb⟩
  simp only [goV, goalV]
  have HT := Aside0.mk ((HS.out.goal _ _ _).two hb)
  clear HS hb
  have HS := HT
  clear HT
  go_wp2_with fail
  refine (Go_calls (l := known) (a := []) (HS.out.goal _ _ _).sl (nil_sl _) 4 (by omega) (by omega) _ M.out.2.2.1).mono ?_
  rintro e w4 ⟨rfl, hb⟩
  simp only [goV, goalV]
  have HT := Aside0.mk ((HS.out.goal _ _ _).two hb)
  clear HS hb
  have HS := HT
  clear HT
  go_wp2_with fail
  refine (Go_calls (l := known) (a := []) (HS.out.goal _ _ _).sl (nil_sl _) 0 (by omega) (by omega) _ M.out.2.2.2.1).mono ?_
  rintro e w5 ⟨rfl, hb⟩
  simp only [goV, goalV]
  have HT := Aside0.mk ((HS.out.goal _ _ _).two hb)
  clear HS hb
  have HS := HT
  clear HT
  go_wp2_with fail
  refine (Go_calls (l := known) (a := []) (HS.out.goal _ _ _).sl (nil_sl _) 7 (by omega) (by omega) _ M.out.2.2.2.2.1).mono ?_
  rintro e w6 ⟨rfl, hb⟩
  simp only [goV, goalV]
  have HT := Aside0.mk ((HS.out.goal _ _ _).two hb)
  clear HS hb
  have HS := HT
  clear HT
  go_wp2_with fail
  refine (Go_calls (l := known) (a := []) (HS.out.goal _ _ _).sl (nil_sl _) 11 (by omega) (by omega) _ M.out.2.2.2.2.2.1).mono ?_
  rintro e w7 ⟨rfl, hb⟩
  simp only [goV, goalV]
  have HT := Aside0.mk ((HS.out.goal _ _ _).two hb)
  clear HS hb
  have HS := HT
  clear HT
  go_wp2_with fail
  refine (Go_calls (l := known) (a := [100]) ((HS.out.goal _ _ _).two (below_alloc (Below.refl _ _) _)).sl (lit_sl (w7.alloc (.cells #[.int .i64 9, .bool false, .bool false] 25)) (xs := [100]) (c := 1) rfl ⟨by decide, by decide⟩ (by decide) _ _ (by simp)) 3 (by omega) (by omega) _ M.out.2.2.2.2.2.2).mono ?_
  rintro e w8 ⟨rfl, hb⟩
  simp only [goV, goalV]
  have HT := Aside0.mk (((HS.out.goal _ _ _).two (below_alloc (Below.refl _ _) _)).two hb)
  clear HS hb
  have HS := HT
  clear HT
  have HT := Aside0.mk (HS.out.goal 4 true false)
  clear HS
  have HS := HT
  clear HT
  obtain ⟨c00, c01, c02⟩ := HS.out.cells (g := w2.heap.size) (x := 7) (y := false) (z := false) (by simp)
  obtain ⟨c10, c11, c12⟩ := HS.out.cells (g := w3.heap.size) (x := 5) (y := false) (z := false) (by simp)
  obtain ⟨c30, c31, c32⟩ := HS.out.cells (g := w5.heap.size) (x := 6) (y := false) (z := true) (by simp)
  obtain ⟨c40, c41, c42⟩ := HS.out.cells (g := w6.heap.size) (x := 9) (y := true) (z := false) (by simp)
  obtain ⟨c50, c51, c52⟩ := HS.out.cells (g := w7.heap.size) (x := 9) (y := false) (z := false) (by simp)
  obtain ⟨c60, c61, c62⟩ := HS.out.cells (g := w8.heap.size) (x := 4) (y := true) (z := false) (by simp)
  go_wp2_with fail
  go_ret
  exact ⟨rfl, HS.out.bel⟩
end Go.Proofs.Ytiibjehnlphabaa

end

section
namespace Go.Proofs.Ytiibjehnlphabaa.moveKnown
open Go.ChangeShapes Go.WideShapes Go.ChangeAt Go.RowKit
set_option linter.unusedVariables false
theorem own : ownKnob Try.prog.godebug = none := by kernel_rfl
set_option maxRecDepth 100000 in
theorem lifted (os : Os) (started : os.Started) (H : Type) (enc : TypeId × Value → H) :
    ReturnsInHanded {} Try.checked os 3 .any (Rows.moveKnownSpec.pre6 enc Try.prog Try.f3 Rows.moveKnownRow.domain false) (Rows.moveKnownSpec.post enc Try.prog Try.f3 false true false false) := by
  refine returnsInHanded_of_change_sized (C := Try.checked) own started (by kernel_rfl) Try.func3
    (ChangeSpec.witness6 (enc := enc) (C := Try.checked) false ⟨#[], #[], []⟩ 8 (by kernel_rfl) (by kernel_rfl) (by kernel_rfl) (by kernel_rfl)) ?_
  intro W base args ds gs before hval0 hW hcnd hsz0 _
  have hW' := hW
  obtain ⟨p, q, hA0, hV, rfl, hfz, hnd⟩ := hW
  have hA : DataW.TrodAll enc Try.prog W 0 (fun _ => true) true Try.f3.params.toList args.toList ds p := hA0
  rw [Try.params3] at hA
  obtain ⟨hargs, rfl, rfl⟩ := trodAll_nil hA
  obtain rfl : args = #[] := by cases args; simp_all
  obtain ⟨rfl, rfl⟩ := trodVars_none hV
  clear hA0 hval0 hsz0
  refine (known_calls W).mono fun e W' ⟨he, bel⟩ => ?_
  subst he
  exact ⟨_, rfl, _, _, _, [], _, [], hW', trodAll_mk1 (shut_bool Try.underlying4 _), trodAll_mk0, rfl, bel.frame _, fun h => by cases h⟩
theorem over : Rows.moveKnownRow.holds Try.pinned (OpenSpec.ofChange Rows.moveKnownSpec) :=
  OpenClaim.holds_of_wide 3 Try.f3 rfl rfl rfl rfl rfl rfl rfl ⟨rfl, rfl, rfl, rfl, rfl⟩ rfl rfl rfl rfl rfl (by kernel_rfl) Try.func3 (by kernel_rfl)
    (of_decide_eq_true (by kernel_rfl)) (by unfold Func.isWrapper; first | (rw [if_pos (by decide +kernel)]; kernel_rfl) | (rw [if_neg (by decide +kernel)]; exact ⟨rfl, rfl⟩))
    (fun os started H enc _ => lifted os started H enc)
theorem proved : Rows.MoveKnownSaid := over
end Go.Proofs.Ytiibjehnlphabaa.moveKnown
namespace Go.Proofs.Ytiibjehnlphabaa
/-- The row, under a short name, for the claim. -/
theorem moveKnown_holds : Rows.MoveKnownSaid := moveKnown.proved
end Go.Proofs.Ytiibjehnlphabaa

end
