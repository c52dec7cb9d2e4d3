/- The row of law MovePlaces of chapter 23 holds, for every input that the row names (part 0). Conditions: none. -/
import Derived.Test.YtiibjehnlphabaaRows
import Derived.WalkKit
import Derived.ProofKit
import Derived.OpenShut
import Derived.ShutString
import Derived.ChangeOld
import Derived.Below
import Derived.SizedLaws
import Derived.Lib.SmallJoins
import Derived.Test.YtiibjehnlphabaaWSized
import Derived.Test.YtiibjehnlphabaaMB8
section
namespace Go.Proofs.Ytiibjehnlphabaa
open Go.RowKit Go.Proofs.YtiibjehnlphabaaW.PrintWords Go.Proofs.YtiibjehnlphabaaW.PrintMore Q
set_option linter.unusedVariables false
set_option linter.unusedSimpArgs false
section
variable {w : World} {A : Option Addr} {c : Nat} {l : List Int}
theorem p_Start (h : Sl w A c l) (a : Int) : Calls Try.prog 24 #[.slice A l.length c, .int .i64 a] w fun e w' => e = .returned (.int .i64 (start l (place l a) : Int)) ∧ Below w.heap.size w w' := by
  obtain ⟨k, e⟩ := (Start_ev h.ok a).rounds
  exact move_Start.calls k A c l a _ w h.reads h.cap e
theorem p_rStart (h : Sl w A c l) (a : Int) : Calls Try.prog 27 #[.slice A l.length c, .int .i64 a] w fun e w' => e = .returned (.int .i64 (start l (place l a) : Int)) ∧ Below w.heap.size w w' := by
  obtain ⟨k, e⟩ := (rStart_ev h.ok a).rounds
  exact escritoireref23_Start.calls k A c l a _ w h.reads h.cap e
theorem p_End (h : Sl w A c l) (a : Int) : Calls Try.prog 28 #[.slice A l.length c, .int .i64 a] w fun e w' => e = .returned (.int .i64 (fin l (place l a) : Int)) ∧ Below w.heap.size w w' := by
  obtain ⟨k, e⟩ := (End_ev h.ok a).rounds
  exact move_End.calls k A c l a _ w h.reads h.cap e
theorem p_rEnd (h : Sl w A c l) (a : Int) : Calls Try.prog 29 #[.slice A l.length c, .int .i64 a] w fun e w' => e = .returned (.int .i64 (fin l (place l a) : Int)) ∧ Below w.heap.size w w' := by
  obtain ⟨k, e⟩ := (rEnd_ev h.ok a).rounds
  exact escritoireref23_End.calls k A c l a _ w h.reads h.cap e
theorem p_rRest (h : Sl w A c l) (a : Int) : Calls Try.prog 30 #[.slice A l.length c, .int .i64 a] w fun e w' => e = .returned (.int .i64 (rest l (place l a) : Int)) ∧ Below w.heap.size w w' := by
  obtain ⟨k, e⟩ := (rRest_ev h.ok a).rounds
  exact escritoireref23_Rest.calls k A c l a _ w h.reads h.cap e
theorem p_rFirst (h : Sl w A c l) (a : Int) : Calls Try.prog 31 #[.slice A l.length c, .int .i64 a] w fun e w' => e = .returned (.int .i64 (first l (place l a) : Int)) ∧ Below w.heap.size w w' := by
  obtain ⟨k, e⟩ := (rFirst_ev h.ok a).rounds
  exact escritoireref23_First.calls k A c l a _ w h.reads h.cap e
theorem p_rColumn (h : Sl w A c l) (a : Int) : Calls Try.prog 32 #[.slice A l.length c, .int .i64 a] w fun e w' => e = .returned (.int .i64 (column l (place l a) : Int)) ∧ Below w.heap.size w w' := by
  obtain ⟨k, e⟩ := (rColumn_ev h.ok a).rounds
  exact escritoireref23_Column.calls k A c l a _ w h.reads h.cap e
theorem p_rPlace (h : Sl w A c l) (a q : Int) (hq : q ≤ 9223372036854775807) : Calls Try.prog 34 #[.slice A l.length c, .int .i64 a, .int .i64 q] w fun e w' => e = .returned (.int .i64 (colAt l (place l a) q.toNat : Int)) ∧ Below w.heap.size w w' := by
  obtain ⟨k, e⟩ := (rPlace_ev h.ok a q hq).rounds
  exact escritoireref23_Place.calls k A c l a q _ w h.reads h.cap e
set_option maxRecDepth 100000 in
set_option maxHeartbeats 1000000 in
theorem lawPlaces_calls (hS : Sl w A c l) (at_ : Int) (h1 : (Lit.int .i64 at_).wf = true) (q : Int) (h2 : (Lit.int .i64 q).wf = true) :
    Calls Try.prog 10 #[.slice A l.length c, .int .i64 at_, .int .i64 q] w fun e w' => e = .returned (.bool true) ∧ Below w.heap.size w w' := by
  have HS := Aside0.mk (Ls.begin_ hS)
  have hsz := hS.ok.size
  have hq := (i64_of h2).2
  clear hS h1 h2
  by_cases hl : 3000 < l.length
  · have t1 : decide ((3000 : Int) < (l.length : Int)) = true := decide_eq_true (by omega)
    have t1' : decide (3000 < l.length) = true := decide_eq_true (by omega)
    go_enter Try.func10, Try.ntmps10
    go_wp2_with fail
    refine (awake_calls w).mono ?_
    rintro e w1 ⟨rfl, hb⟩
    have HB := Aside0.mk hb
    clear hb
    go_wp2_with fail
    go_ret
    exact ⟨rfl, HB.out⟩
  · have t1 : decide ((3000 : Int) < (l.length : Int)) = false := decide_eq_false (by omega)
    have t1' : decide (3000 < l.length) = false := decide_eq_false (by omega)
    go_enter Try.func10, Try.ntmps10
    go_wp2_with fail
    refine (awake_calls w).mono ?_
    rintro e w1 ⟨rfl, hb⟩
    have HT := Aside0.mk (HS.out.two hb)
    clear hb HS
    have HS := HT
    clear HT
    go_wp2_with fail
    refine (p_Start HS.out.sl at_).mono ?_
    rintro e w2 ⟨rfl, hb⟩
    have HT := Aside0.mk (HS.out.two hb)
    clear hb HS
    have HS := HT
    clear HT
    go_wp2_with fail
    refine (p_rStart HS.out.sl at_).mono ?_
    rintro e w3 ⟨rfl, hb⟩
    have HT := Aside0.mk (HS.out.two hb)
    clear hb HS
    have HS := HT
    clear HT
    go_wp2_with fail
    refine (p_End HS.out.sl at_).mono ?_
    rintro e w4 ⟨rfl, hb⟩
    have HT := Aside0.mk (HS.out.two hb)
    clear hb HS
    have HS := HT
    clear HT
    go_wp2_with fail
    refine (p_rEnd HS.out.sl at_).mono ?_
    rintro e w5 ⟨rfl, hb⟩
    have HT := Aside0.mk (HS.out.two hb)
    clear hb HS
    have HS := HT
    clear HT
    go_wp2_with fail
    refine (c_Rest HS.out.sl at_).mono ?_
    rintro e w6 ⟨rfl, hb⟩
    have HT := Aside0.mk (HS.out.two hb)
    clear hb HS
    have HS := HT
    clear HT
    go_wp2_with fail
    refine (p_rRest HS.out.sl at_).mono ?_
    rintro e w7 ⟨rfl, hb⟩
    have HT := Aside0.mk (HS.out.two hb)
    clear hb HS
    have HS := HT
    clear HT
    go_wp2_with fail
    refine (c_First HS.out.sl at_).mono ?_
    rintro e w8 ⟨rfl, hb⟩
    have HT := Aside0.mk (HS.out.two hb)
    clear hb HS
    have HS := HT
    clear HT
    go_wp2_with fail
    refine (p_rFirst HS.out.sl at_).mono ?_
    rintro e w9 ⟨rfl, hb⟩
    have HT := Aside0.mk (HS.out.two hb)
    clear hb HS
    have HS := HT
    clear HT
    go_wp2_with fail
    refine (c_Column HS.out.sl at_).mono ?_
    rintro e w10 ⟨rfl, hb⟩
    have HT := Aside0.mk (HS.out.two hb)
    clear hb HS
    have HS := HT
    clear HT
    go_wp2_with fail
    refine (p_rColumn HS.out.sl at_).mono ?_
    rintro e w11 ⟨rfl, hb⟩
    have HT := Aside0.mk (HS.out.two hb)
    clear hb HS
    have HS := HT
    clear HT
    go_wp2_with fail
    refine (c_Place HS.out.sl at_ q hq).mono ?_
    rintro e w12 ⟨rfl, hb⟩
    have HT := Aside0.mk (HS.out.two hb)
    clear hb HS
    have HS := HT
    clear HT
    go_wp2_with fail
    refine (p_rPlace HS.out.sl at_ q hq).mono ?_
    rintro e w13 ⟨rfl, hb⟩
    have HT := Aside0.mk (HS.out.two hb)
    clear hb HS
    have HS := HT
    clear HT
    go_wp2_with fail
    go_ret
    exact ⟨rfl, HS.out.bel⟩
end
end Go.Proofs.Ytiibjehnlphabaa

end

section
namespace Go.Proofs.Ytiibjehnlphabaa.movePlaces
open Go.ChangeShapes Go.WideShapes Go.ChangeAt Go.RowKit
set_option linter.unusedVariables false
theorem own : ownKnob Try.prog.godebug = none := by kernel_rfl
theorem laidOut : laidOutB Try.prog = true := by kernel_rfl
def IsRow (k : IntKind) (w : World) (a : Option Addr) (len cap : Nat) (zs : List Int) : Prop :=
  (a = none ∧ len = 0 ∧ cap = 0 ∧ zs = []) ∨
  ∃ x, a = some x ∧ len ≤ cap ∧ cap ≤ maxLen ∧ zs.length = cap ∧ (∀ i, i < zs.length → w.cell? (x.add i) = some (.int k (zs.getD i 0))) ∧ ∀ n ∈ zs, (Lit.int k n).wf = true
set_option maxRecDepth 100000 in
theorem lifted (os : Os) (started : os.Started) (H : Type) (enc : TypeId × Value → H) :
    ReturnsInHanded {} Try.checked os 10 .any (Rows.movePlacesSpec.pre6 enc Try.prog Try.f10 Rows.movePlacesRow.domain false) (Rows.movePlacesSpec.post enc Try.prog Try.f10 false true false false) := by
  refine returnsInHanded_of_change_sized (C := Try.checked) own started (by kernel_rfl) Try.func10
    (ChangeSpec.witness6 (enc := enc) (C := Try.checked) false ⟨#[], #[.slice none 0 0, .int .i64 0, .int .i64 0], []⟩ 8 (by kernel_rfl) (by kernel_rfl) (by kernel_rfl) (by kernel_rfl)) ?_
  intro W base args ds gs before hval0 hW hcnd hsz0 _
  have hsz : (DataW.weightsEach Try.prog (Try.f10.params.toList ++ Rows.movePlacesSpec.plain.varTypes Try.prog) (ds ++ gs)).all (· ≤ reachBytes) = true := hsz0
  have hval : ∀ (j : Nat) t v, Try.f10.params[j]? = some t → args[j]? = some v → Value.okWide Try.prog W .any base t v := hval0
  have hW' := hW
  obtain ⟨p, q, hA0, hV, rfl, hfz, hnd⟩ := hW
  have hA : DataW.TrodAll enc Try.prog W 0 (fun _ => true) true Try.f10.params.toList args.toList ds p := hA0
  rw [Try.params10] at hA hval hsz
  obtain ⟨v0, vs0, d0, ds0, p0, q0, hargs, rfl, rfl, h0, r0⟩ := trodAll_cons hA
  obtain ⟨v1, vs1, d1, ds1, p1, q1, rfl, rfl, rfl, h1, r1⟩ := trodAll_cons r0
  obtain ⟨v2, vs2, d2, ds2, p2, q2, rfl, rfl, rfl, h2, r2⟩ := trodAll_cons r1
  obtain ⟨rfl, rfl, rfl⟩ := trodAll_nil r2
  obtain rfl : args = #[v0, v1, v2] := by cases args; simp_all
  obtain ⟨rfl, rfl⟩ := trodVars_none hV
  obtain ⟨a0, len0, cap0, rfl⟩ := okWide_slice Try.underlying23 (hval 0 23 v0 rfl rfl)
  have k0 := h0
  have lt0 : ∀ x ∈ p0, x.block < W.heap.size := by obtain ⟨m, hm⟩ := k0; exact DataW.trod_lt m _ _ _ hm
  obtain ⟨z0, w0⟩ : ∃ zs, IsRow .u8 W a0 len0 cap0 zs := by
    obtain ⟨fuel, hf⟩ := h0
    rcases open_ints Try.underlying23 Try.underlying5 (by kernel_rfl) hf with ⟨hcs, _⟩ | ⟨x, l, c, zs, hcs, _, hl, hm, hz, _, hcell, hwz⟩
    · simp [Value.cells] at hcs
      obtain ⟨rfl, rfl, rfl⟩ := hcs
      exact ⟨[], .inl ⟨rfl, rfl, rfl, rfl⟩⟩
    · simp [Value.cells] at hcs
      obtain ⟨rfl, rfl, rfl⟩ := hcs
      exact ⟨zs, .inr ⟨_, rfl, hl, hm, by simpa using hz, hcell, hwz⟩⟩
  have y0 : len0 * 1 ≤ 140737488351232 := Go.Proofs.YtiibjehnlphabaaW.PrintWords.sized_ints hsz (j := 0) (t := 23) rfl rfl Try.underlying23 Try.underlying5 (by kernel_rfl) (by kernel_rfl) h0
  obtain ⟨l0, rfl, hS0⟩ := row_sl w0 y0
  obtain ⟨a1, rfl, rfl, rfl, w1⟩ := open_int Try.underlying3 (hval 1 3 v1 rfl rfl) h1
  obtain ⟨a2, rfl, rfl, rfl, w2⟩ := open_int Try.underlying3 (hval 2 3 v2 rfl rfl) h2
  clear hA0 hval0 hsz0 hsz
  refine (lawPlaces_calls hS0 a1 w1 a2 w2).mono fun e W' ⟨he, bel⟩ => ?_
  subst he
  exact ⟨_, rfl, _, _, _, [], _, [], hW', trodAll_mk1 (shut_bool Try.underlying4 _), (trodAll_cons_mk (Below.trod laidOut (by kernel_rfl) (of_decide_eq_true (by kernel_rfl)) k0 bel lt0) (trodAll_cons_mk (shut_int Try.underlying3 w1) (trodAll_cons_mk (shut_int Try.underlying3 w2) trodAll_mk0))), rfl, bel.frame _, fun h => by cases h⟩
theorem over : Rows.movePlacesRow.holds Try.pinned (OpenSpec.ofChange Rows.movePlacesSpec) :=
  OpenClaim.holds_of_wide 10 Try.f10 rfl rfl rfl rfl rfl rfl rfl ⟨rfl, rfl, rfl, rfl, rfl⟩ rfl rfl rfl rfl rfl (by kernel_rfl) Try.func10 (by kernel_rfl)
    (of_decide_eq_true (by kernel_rfl)) (by unfold Func.isWrapper; first | (rw [if_pos (by decide +kernel)]; kernel_rfl) | (rw [if_neg (by decide +kernel)]; exact ⟨rfl, rfl⟩))
    (fun os started H enc _ => lifted os started H enc)
theorem proved : Rows.MovePlacesSaid := over
end Go.Proofs.Ytiibjehnlphabaa.movePlaces
namespace Go.Proofs.Ytiibjehnlphabaa
/-- The row, under a short name, for the claim. -/
theorem movePlaces_holds : Rows.MovePlacesSaid := movePlaces.proved
end Go.Proofs.Ytiibjehnlphabaa

end
