/- The row of law MoveWords of chapter 23 holds, for every input that the row names (part 0). Conditions: none. -/
import Derived.WalkKit
import Derived.Deep.QuietTactic
import Derived.BigQuiet
import Derived.Deep.RegionHeld3
import Derived.Test.YtiibjehnlphabaaRows
import Derived.ProofKit
import Derived.OpenShut
import Derived.ShutString
import Derived.ChangeOld
import Derived.Below
import Derived.SizedLaws
import Derived.Test.YtiibjehnlphabaaWSized
import Derived.Test.YtiibjehnlphabaaMB8
section
namespace Go.Proofs.Ytiibjehnlphabaa
open Go.RowKit Go.Proofs.YtiibjehnlphabaaW.PrintWords Go.Proofs.YtiibjehnlphabaaW.PrintMore Q
set_option linter.unusedVariables false
set_option linter.unusedSimpArgs false
section
variable {w : World} {A : Option Addr} {c : Nat} {l : List Int}
set_option maxRecDepth 100000 in
theorem lawWords_calls (hS : Sl w A c l) (a : Int) (ha : (Lit.int .i64 a).wf = true) :
    Calls Try.prog 6 #[.slice A l.length c, .int .i64 a] w fun e w' => e = .returned (.bool true) ∧ Below w.heap.size w w' := by
  have HS := Aside0.mk (Ls.begin_ hS)
  have hsz := hS.ok.size
  clear hS ha
  by_cases hl : 300 < l.length
  · have t1 : decide ((300 : Int) < (l.length : Int)) = true := decide_eq_true (by omega)
    have t1' : decide (300 < l.length) = true := decide_eq_true (by omega)
    go_enter Try.func6, Try.ntmps6
    go_wp2_with fail
    refine (awake_calls w).mono ?_
    rintro e w1 ⟨rfl, hb⟩
    have HB := Aside0.mk hb
    clear hb
    go_wp2_with fail
    go_ret
    exact ⟨rfl, HB.out⟩
  · have t1 : decide ((300 : Int) < (l.length : Int)) = false := decide_eq_false (by omega)
    have t1' : decide (300 < l.length) = false := decide_eq_false (by omega)
    go_enter Try.func6, Try.ntmps6
    go_wp2_with fail
    refine (awake_calls w).mono ?_
    rintro e w1 ⟨rfl, hb⟩
    have HT := Aside0.mk (HS.out.two hb)
    clear hb HS
    have HS := HT
    clear HT
    go_wp2_with fail
    refine (c_Rest HS.out.sl a).mono ?_
    rintro e w2 ⟨rfl, hb⟩
    have HT := Aside0.mk (HS.out.two hb)
    clear hb HS
    have HS := HT
    clear HT
    have hpb := Aside0.mk (rest_rests (place_begins l a)).1
    generalize rest l (place l a) = p0 at *
    go_wp2_with fail
    go_loopw [5, 6] (fun v5 v6 wr => ∃ p i : Nat, v5 = .int .i64 (p : Int) ∧ v6 = .int .i64 (i : Int) ∧ i ≤ p ∧ Aside0 (begins l p = true) ∧ Aside0 (Ls w wr A c l [])) (fun _ v6 _ => l.length + 1 - (intOf v6).toNat)
    case atStart => exact ⟨p0, 0, rfl, rfl, Nat.zero_le _, hpb, HS⟩
    case round =>
      clear HS hpb
      obtain ⟨p, i, rfl, rfl, hip, hpb, HS⟩ := hrel
      have hpl := begins_le hpb.out
      go_wp2_with fail
      rcases words_step hpb.out with hm | ⟨g, hm, h1, h2, h3, h4, h5, h6⟩
      · refine (c_go HS.out.sl (nil_sl _) hpb.out (toList1 119) (by omega) (by omega) false _ hm).mono ?_
        rintro e w3 ⟨rfl, hb⟩
        have HT := Aside0.mk ((HS.out.two hb).goal 0 false false)
        have HM := Aside0.mk hm
        clear hb HS hm
        have HS := HT
        clear HT
        simp only [goV, goalV]
        go_wp2_with fail
        refine (c_go HS.out.sl (nil_sl _) hpb.out (toList1 119) (by omega) (by omega) false _ HM.out).mono ?_
        rintro e w4 ⟨rfl, hb⟩
        have HT := Aside0.mk ((HS.out.two hb).goal 0 false false)
        clear hb HS
        have HS := HT
        clear HT
        simp only [goV, goalV]
        go_wp2_with fail
        go_ret
        exact ⟨rfl, HS.out.bel⟩
      · refine (c_go HS.out.sl (nil_sl _) hpb.out (toList1 119) (by omega) (by omega) false _ hm).mono ?_
        rintro e w3 ⟨rfl, hb⟩
        have HT := Aside0.mk ((HS.out.two hb).goal g false false)
        have H4 := Aside0.mk h4
        have H3 := Aside0.mk h3
        have H6 := Aside0.mk h6
        clear hb HS hm h4 h3 h6
        have HS := HT
        clear HT
        simp only [goV, plain_, goalV]
        obtain ⟨c0, c1, c2⟩ := HS.out.cells (g := w3.heap.size) (x := g) (y := false) (z := false) (by simp)
        go_wp2_with fail
        refine (c_go HS.out.sl (nil_sl _) H3.out (toList1 98) (by omega) (by omega) false _ H4.out).mono ?_
        rintro e w4 ⟨rfl, hb⟩
        have HT := Aside0.mk ((HS.out.two hb).goal (back l g) false false)
        clear hb HS c0 c1 c2
        have HS := HT
        clear HT
        simp only [goV, plain_, goalV]
        obtain ⟨c0, c1, c2⟩ := HS.out.cells (g := w3.heap.size) (x := g) (y := false) (z := false) (by simp)
        obtain ⟨d0, d1, d2⟩ := HS.out.cells (g := w4.heap.size) (x := back l g) (y := false) (z := false) (by simp)
        go_wp2_with fail
        refine (c_next HS.out.sl g).mono ?_
        rintro e w5 ⟨rfl, hb⟩
        have HT := Aside0.mk (HS.out.two hb)
        clear hb HS c0 c1 c2 d0 d1 d2
        have HS := HT
        clear HT
        go_wp2_with fail
        refine (c_next HS.out.sl p).mono ?_
        rintro e w6 ⟨rfl, hb⟩
        have HT := Aside0.mk (HS.out.two hb)
        clear hb HS
        have HS := HT
        clear HT
        go_wp2_with fail
        refine (c_Class _ _).mono ?_
        rintro e w7 ⟨rfl, hb⟩
        have HT := Aside0.mk (HS.out.two hb)
        clear hb HS
        have HS := HT
        clear HT
        by_cases hg : kls l g = 0
        · have k1 : (cls (rn l g) == 0) = true := beq_iff_eq.2 hg
          have k2 : (cls (rn l g) != 0) = false := by rw [bne, k1]; rfl
          obtain ⟨c0, c1, c2⟩ := HS.out.cells (g := w3.heap.size) (x := g) (y := false) (z := false) (by simp)
          obtain ⟨d0, d1, d2⟩ := HS.out.cells (g := w4.heap.size) (x := back l g) (y := false) (z := false) (by simp)
          go_wp2_with fail
          go_roundw
          case rel => exact ⟨g, i + 1, rfl, by go_num, by omega, H3, ⟨HS.out.bare⟩⟩
          case measure => simp [intOf]; omega
        · have k1 : (cls (rn l g) == 0) = false := beq_eq_false_iff_ne.2 hg
          have k2 : (cls (rn l g) != 0) = true := by rw [bne, k1]; rfl
          go_wp2_with fail
          refine (c_Class _ _).mono ?_
          rintro e w8 ⟨rfl, hb⟩
          have HT := Aside0.mk (HS.out.two hb)
          clear hb HS
          have HS := HT
          clear HT
          obtain ⟨c0, c1, c2⟩ := HS.out.cells (g := w3.heap.size) (x := g) (y := false) (z := false) (by simp)
          obtain ⟨d0, d1, d2⟩ := HS.out.cells (g := w4.heap.size) (x := back l g) (y := false) (z := false) (by simp)
          by_cases hp : kls l p = 0
          · have j1 : (cls (rn l p) == 0) = true := beq_iff_eq.2 hp
            have j2 : (cls (rn l p) != 0) = false := by rw [bne, j1]; rfl
            go_wp2_with fail
            go_roundw
            case rel => exact ⟨g, i + 1, rfl, by go_num, by omega, H3, ⟨HS.out.bare⟩⟩
            case measure => simp [intOf]; omega
          · have j1 : (cls (rn l p) == 0) = false := beq_eq_false_iff_ne.2 hp
            have j2 : (cls (rn l p) != 0) = true := by rw [bne, j1]; rfl
            have h6 := H6.out hg hp
            go_wp2_with fail
            go_roundw
            case rel => exact ⟨g, i + 1, rfl, by go_num, by omega, H3, ⟨HS.out.bare⟩⟩
            case measure => simp [intOf]; omega
end
end Go.Proofs.Ytiibjehnlphabaa

end

section
namespace Go.Proofs.Ytiibjehnlphabaa.moveWords
open Go.ChangeShapes Go.WideShapes Go.ChangeAt Go.RowKit
set_option linter.unusedVariables false
theorem own : ownKnob Try.prog.godebug = none := by kernel_rfl
theorem laidOut : laidOutB Try.prog = true := by kernel_rfl
def IsRow (k : IntKind) (w : World) (a : Option Addr) (len cap : Nat) (zs : List Int) : Prop :=
  (a = none ∧ len = 0 ∧ cap = 0 ∧ zs = []) ∨
  ∃ x, a = some x ∧ len ≤ cap ∧ cap ≤ maxLen ∧ zs.length = cap ∧ (∀ i, i < zs.length → w.cell? (x.add i) = some (.int k (zs.getD i 0))) ∧ ∀ n ∈ zs, (Lit.int k n).wf = true
set_option maxRecDepth 100000 in
theorem lifted (os : Os) (started : os.Started) (H : Type) (enc : TypeId × Value → H) :
    ReturnsInHanded {} Try.checked os 6 .any (Rows.moveWordsSpec.pre6 enc Try.prog Try.f6 Rows.moveWordsRow.domain false) (Rows.moveWordsSpec.post enc Try.prog Try.f6 false true false false) := by
  refine returnsInHanded_of_change_sized (C := Try.checked) own started (by kernel_rfl) Try.func6
    (ChangeSpec.witness6 (enc := enc) (C := Try.checked) false ⟨#[], #[.slice none 0 0, .int .i64 0], []⟩ 8 (by kernel_rfl) (by kernel_rfl) (by kernel_rfl) (by kernel_rfl)) ?_
  intro W base args ds gs before hval0 hW hcnd hsz0 _
  have hsz : (DataW.weightsEach Try.prog (Try.f6.params.toList ++ Rows.moveWordsSpec.plain.varTypes Try.prog) (ds ++ gs)).all (· ≤ reachBytes) = true := hsz0
  have hval : ∀ (j : Nat) t v, Try.f6.params[j]? = some t → args[j]? = some v → Value.okWide Try.prog W .any base t v := hval0
  have hW' := hW
  obtain ⟨p, q, hA0, hV, rfl, hfz, hnd⟩ := hW
  have hA : DataW.TrodAll enc Try.prog W 0 (fun _ => true) true Try.f6.params.toList args.toList ds p := hA0
  rw [Try.params6] at hA hval hsz
  obtain ⟨v0, vs0, d0, ds0, p0, q0, hargs, rfl, rfl, h0, r0⟩ := trodAll_cons hA
  obtain ⟨v1, vs1, d1, ds1, p1, q1, rfl, rfl, rfl, h1, r1⟩ := trodAll_cons r0
  obtain ⟨rfl, rfl, rfl⟩ := trodAll_nil r1
  obtain rfl : args = #[v0, v1] := by cases args; simp_all
  obtain ⟨rfl, rfl⟩ := trodVars_none hV
  obtain ⟨a0, len0, cap0, rfl⟩ := okWide_slice Try.underlying23 (hval 0 23 v0 rfl rfl)
  have k0 := h0
  have lt0 : ∀ x ∈ p0, x.block < W.heap.size := by obtain ⟨m, hm⟩ := k0; exact DataW.trod_lt m _ _ _ hm
  obtain ⟨z0, w0⟩ : ∃ zs, IsRow .u8 W a0 len0 cap0 zs := by
    obtain ⟨fuel, hf⟩ := h0
    rcases open_ints Try.underlying23 Try.underlying5 (by kernel_rfl) hf with ⟨hcs, _⟩ | ⟨x, l, c, zs, hcs, _, hl, hm, hz, _, hcell, hwz⟩
    · simp [Value.cells] at hcs
      obtain ⟨rfl, rfl, rfl⟩ := hcs
      exact ⟨[], .inl ⟨rfl, rfl, rfl, rfl⟩⟩
    · simp [Value.cells] at hcs
      obtain ⟨rfl, rfl, rfl⟩ := hcs
      exact ⟨zs, .inr ⟨_, rfl, hl, hm, by simpa using hz, hcell, hwz⟩⟩
  have y0 : len0 * 1 ≤ 140737488351232 := Go.Proofs.YtiibjehnlphabaaW.PrintWords.sized_ints hsz (j := 0) (t := 23) rfl rfl Try.underlying23 Try.underlying5 (by kernel_rfl) (by kernel_rfl) h0
  obtain ⟨l0, rfl, hS0⟩ := row_sl w0 y0
  obtain ⟨a1, rfl, rfl, rfl, w1⟩ := open_int Try.underlying3 (hval 1 3 v1 rfl rfl) h1
  clear hA0 hval0 hsz0 hsz
  refine (lawWords_calls hS0 a1 w1).mono fun e W' ⟨he, bel⟩ => ?_
  subst he
  exact ⟨_, rfl, _, _, _, [], _, [], hW', trodAll_mk1 (shut_bool Try.underlying4 _), (trodAll_cons_mk (Below.trod laidOut (by kernel_rfl) (of_decide_eq_true (by kernel_rfl)) k0 bel lt0) (trodAll_cons_mk (shut_int Try.underlying3 w1) trodAll_mk0)), rfl, bel.frame _, fun h => by cases h⟩
theorem over : Rows.moveWordsRow.holds Try.pinned (OpenSpec.ofChange Rows.moveWordsSpec) :=
  OpenClaim.holds_of_wide 6 Try.f6 rfl rfl rfl rfl rfl rfl rfl ⟨rfl, rfl, rfl, rfl, rfl⟩ rfl rfl rfl rfl rfl (by kernel_rfl) Try.func6 (by kernel_rfl)
    (of_decide_eq_true (by kernel_rfl)) (by unfold Func.isWrapper; first | (rw [if_pos (by decide +kernel)]; kernel_rfl) | (rw [if_neg (by decide +kernel)]; exact ⟨rfl, rfl⟩))
    (fun os started H enc _ => lifted os started H enc)
theorem proved : Rows.MoveWordsSaid := over
end Go.Proofs.Ytiibjehnlphabaa.moveWords
namespace Go.Proofs.Ytiibjehnlphabaa
/-- The row, under a short name, for the claim. -/
theorem moveWords_holds : Rows.MoveWordsSaid := moveWords.proved
end Go.Proofs.Ytiibjehnlphabaa

end
