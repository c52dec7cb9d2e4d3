/- The row of law MoveSpans of chapter 23 holds, for every input that the row names (part 0). Conditions: none. -/
import Derived.Test.YtiibjehnlphabaaRows
import Derived.WalkKit
import Derived.ProofKit
import Derived.OpenShut
import Derived.ShutString
import Derived.ChangeOld
import Derived.Below
import Derived.SizedLaws
import Derived.Lib.SmallJoins
import Derived.Test.YtiibjehnlphabaaWSized
import Derived.Test.YtiibjehnlphabaaMB8
section
namespace Go.Proofs.Ytiibjehnlphabaa
open Go.RowKit Go.Proofs.YtiibjehnlphabaaW.PrintWords Go.Proofs.YtiibjehnlphabaaW.PrintMore Q
set_option linter.unusedVariables false
set_option linter.unusedSimpArgs false
/-- What a goal spans from a place. -/
def spanN (l : List Int) (p q : Nat) (inc line : Bool) : Nat × Nat × Bool :=
  if line = true then (start l (min p q), fin l (max p q), true)
  else if inc = true ∧ max p q < l.length ∧ l.getD (max p q) 0 ≠ 10 then (min p q, on l (max p q), false) else (min p q, max p q, false)
theorem spanN_ok {l : List Int} {p q : Nat} (hp : begins l p = true) (hq : begins l q = true) (inc line : Bool) :
    begins l (spanN l p q inc line).1 = true ∧ begins l (spanN l p q inc line).2.1 = true ∧ (spanN l p q inc line).1 ≤ (spanN l p q inc line).2.1 := by
  have hlo : begins l (min p q) = true := by rcases Nat.le_total p q with h | h <;> simp [h, hp, hq, Nat.min_eq_left, Nat.min_eq_right]
  have hhi : begins l (max p q) = true := by rcases Nat.le_total p q with h | h <;> simp [h, hp, hq, Nat.max_eq_left, Nat.max_eq_right]
  have h1 := begins_le hlo
  have h2 := begins_le hhi
  unfold spanN
  split
  · have a := start_le l (min p q)
    have b := fin_le h2
    exact ⟨start_begins h1, fin_begins h2, by simp only []; omega⟩
  · split
    · rename_i h
      have := on_gt h.2.1
      exact ⟨hlo, begins_on hhi h.2.1, by simp only []; omega⟩
    · exact ⟨hlo, hhi, by simp only []; omega⟩
def spanT (t : Nat × Nat × Bool) : Int × Int × Bool := ((t.1 : Int), (t.2.1 : Int), t.2.2)
theorem spanj_ev {l : List Int} (ok : OkL l) {lo hi : Nat} (h1 : lo ≤ hi) (h2 : hi ≤ l.length) (x : Int) (inc line : Bool) : Ev (fun k => move_Span.j0 k l (lo : Int) (hi : Int) x inc line) (spanT (spanN l lo hi inc line)) := by
  have hsz := ok.size
  refine Ev.step (fun k => rfl) ?_
  simp only [move_Span.j0]
  unfold spanN
  rw [Nat.min_eq_left h1, Nat.max_eq_right h1]
  by_cases hl : line = true
  · refine Ev.pos hl (Ev.bind (start_ev ok (by omega)) (Ev.is (?_ : Ev _ ((start l lo : Int), (fin l hi : Int), true)) ?_))
    · rw [end_ev ok h2]
      exact Ev.now _
    · rw [if_pos hl]; rfl
  · rw [if_neg hl]
    refine Ev.neg hl ?_
    by_cases hi_ : inc = true
    · refine Ev.pos hi_ ?_
      by_cases h3 : hi < l.length
      · refine Ev.pos (by omega) (Ev.pos (by omega) ?_)
        rw [rd_nat]
        by_cases h10 : l.getD hi 0 = 10
        · refine Ev.pos h10 (Ev.is (Ev.now _) ?_)
          rw [if_neg (fun h => h.2.2 h10)]; rfl
        · refine Ev.neg h10 (Ev.bind (on_ev ok h2) (Ev.is (Ev.now _) ?_))
          rw [if_pos ⟨hi_, h3, h10⟩]; rfl
      · refine Ev.neg (by omega) (Ev.is (Ev.now _) ?_)
        rw [if_neg (fun h => h3 h.2.1)]; rfl
    · refine Ev.neg hi_ (Ev.is (Ev.now _) ?_)
      rw [if_neg (fun h => hi_ h.1)]; rfl
theorem spanN_comm (l : List Int) (p q : Nat) (inc line : Bool) : spanN l p q inc line = spanN l q p inc line := by
  unfold spanN
  rw [Nat.min_comm, Nat.max_comm]
theorem Span_ev {l : List Int} (ok : OkL l) (a x : Int) (inc line : Bool) : Ev (fun k => move_Span.f k l a x inc line) (spanT (spanN l (place l a) (place l x) inc line)) := by
  simp only [move_Span.f]
  have h1 := place_le l a
  have h2 := place_le l x
  refine Ev.bind (place_ev ok a) (Ev.bind (place_ev ok x) ?_)
  by_cases h : place l a > place l x
  · refine Ev.pos (by omega) ?_
    rw [spanN_comm]
    exact spanj_ev ok (by omega) h1 x inc line
  · exact Ev.neg (by omega) (spanj_ev ok (by omega) h2 x inc line)
theorem mn_nat (p q : Nat) : mn (p : Int) (q : Int) = ((min p q : Nat) : Int) := by unfold mn; split <;> omega
theorem mx_nat (p q : Nat) : mx (p : Int) (q : Int) = ((max p q : Nat) : Int) := by unfold mx; split <;> omega
theorem rSpan_ev {l : List Int} (ok : OkL l) (a x : Int) (inc line : Bool) : Ev (fun k => escritoireref23_Span.f k l a x inc line) (spanT (spanN l (place l a) (place l x) inc line)) := by
  have hsz := ok.size
  simp only [escritoireref23_Span.f]
  have h1 := place_le l a
  have h2 := place_le l x
  refine Ev.bind (rplace_ev ok a) (Ev.bind (rplace_ev ok x) ?_)
  simp only [mn_nat, mx_nat]
  unfold spanN
  by_cases hl : line = true
  · refine Ev.pos hl (Ev.bind (rstart_ev ok (by omega)) (Ev.bind (rend_ev ok (by omega)) (Ev.is (Ev.now _) ?_)))
    rw [if_pos hl]; rfl
  · rw [if_neg hl]
    refine Ev.neg hl ?_
    by_cases hi_ : inc = true
    · refine Ev.pos hi_ ?_
      by_cases h3 : max (place l a) (place l x) < l.length
      · refine Ev.pos (by omega) (Ev.pos (by omega) ?_)
        rw [rd_nat]
        by_cases h10 : l.getD (max (place l a) (place l x)) 0 = 10
        · refine Ev.pos h10 (Ev.is (Ev.now _) ?_)
          rw [if_neg (fun h => h.2.2 h10)]; rfl
        · have hg := on_gt h3
          refine Ev.neg h10 (Ev.bind (rsize_ev ok _) (Ev.is (Ev.now _) ?_))
          unfold on at hg
          rw [if_pos ⟨hi_, h3, h10⟩, w64 (by omega) (by omega)]
          simp only [spanT, on]
          congr 1
      · refine Ev.neg (by omega) (Ev.is (Ev.now _) ?_)
        rw [if_neg (fun h => h3 h.2.1)]; rfl
    · refine Ev.neg hi_ (Ev.is (Ev.now _) ?_)
      rw [if_neg (fun h => hi_ h.1)]; rfl
section
variable {w : World} {A : Option Addr} {c : Nat} {l : List Int}
theorem c_Span (h : Sl w A c l) (a x : Int) (inc line : Bool) {t : Nat × Nat × Bool} (ht : spanN l (place l a) (place l x) inc line = t) : Calls Try.prog 35 #[.slice A l.length c, .int .i64 a, .agg #[.int .i64 x, .bool inc, .bool line]] w fun e w' => e = .returned (.tuple #[.int .i64 (t.1 : Int), .int .i64 (t.2.1 : Int), .bool t.2.2]) ∧ Below w.heap.size w w' := by
  subst ht
  obtain ⟨k, e⟩ := (Span_ev h.ok a x inc line).rounds
  exact move_Span.calls k A c l a x inc line _ _ _ w h.reads h.cap e
theorem c_rSpan (h : Sl w A c l) (a x : Int) (inc line : Bool) {t : Nat × Nat × Bool} (ht : spanN l (place l a) (place l x) inc line = t) : Calls Try.prog 36 #[.slice A l.length c, .int .i64 a, .agg #[.int .i64 x, .bool inc, .bool line]] w fun e w' => e = .returned (.tuple #[.int .i64 (t.1 : Int), .int .i64 (t.2.1 : Int), .bool t.2.2]) ∧ Below w.heap.size w w' := by
  subst ht
  obtain ⟨k, e⟩ := (rSpan_ev h.ok a x inc line).rounds
  exact escritoireref23_Span.calls k A c l a x inc line _ _ _ w h.reads h.cap e
theorem spans_begin (hS : Sl w A c l) (x : Int) (y z : Bool) {w1 : World} (hb : Below (w.alloc (.cells #[.int .i64 x, .bool y, .bool z] 25)).heap.size (w.alloc (.cells #[.int .i64 x, .bool y, .bool z] 25)) w1) : Ls w w1 A c l [(w.heap.size, x, y, z)] := ((Ls.begin_ hS).goal x y z).two hb
set_option maxRecDepth 100000 in
set_option maxHeartbeats 1000000 in
theorem lawSpans_calls (hS : Sl w A c l) (at_ : Int) (h1 : (Lit.int .i64 at_).wf = true) (x : Int) (h2 : (Lit.int .i64 x).wf = true) (inc line : Bool) :
    Calls Try.prog 11 #[.slice A l.length c, .int .i64 at_, .agg #[.int .i64 x, .bool inc, .bool line]] w fun e w' => e = .returned (.bool true) ∧ Below w.heap.size w w' := by
  have HS1 := Aside0.mk hS
  have hsz := hS.ok.size
  clear hS h1 h2
  by_cases hl : 2000 < l.length
  · have t1 : decide ((2000 : Int) < (l.length : Int)) = true := decide_eq_true (by omega)
    have t1' : decide (2000 < l.length) = true := decide_eq_true (by omega)
    go_enter Try.func11, Try.ntmps11
    go_wp2_with fail
    refine (awake_calls _).mono ?_
    rintro e w1 ⟨rfl, hb⟩
    have HS := Aside0.mk (spans_begin HS1.out x inc line hb)
    clear hb HS1
    go_wp2_with fail
    go_ret
    exact ⟨rfl, HS.out.bel⟩
  · have t1 : decide ((2000 : Int) < (l.length : Int)) = false := decide_eq_false (by omega)
    have t1' : decide (2000 < l.length) = false := decide_eq_false (by omega)
    have hk := spanN_ok (place_begins l at_) (place_begins l x) inc line
    obtain ⟨⟨f, t, y⟩, ht⟩ : ∃ u, spanN l (place l at_) (place l x) inc line = u := ⟨_, rfl⟩
    rw [ht] at hk
    simp only [] at hk
    have HF := Aside0.mk hk.1
    have HTO := Aside0.mk hk.2.1
    have hft := hk.2.2
    have htl := begins_le hk.2.1
    have HE := Aside0.mk ht
    clear hk ht
    go_enter Try.func11, Try.ntmps11
    go_wp2_with fail
    refine (awake_calls _).mono ?_
    rintro e w1 ⟨rfl, hb⟩
    have HS := Aside0.mk (spans_begin HS1.out x inc line hb)
    clear hb HS1
    obtain ⟨c0, c1, c2⟩ := HS.out.cells (g := w.heap.size) (x := x) (y := inc) (z := line) (by simp)
    go_wp2_with fail
    refine (c_Span HS.out.sl at_ x inc line HE.out).mono ?_
    rintro e w2 ⟨rfl, hb⟩
    have HT := Aside0.mk (HS.out.two hb)
    clear hb HS c0 c1 c2
    have HS := HT
    clear HT
    simp only []
    obtain ⟨c0, c1, c2⟩ := HS.out.cells (g := w.heap.size) (x := x) (y := inc) (z := line) (by simp)
    go_wp2_with fail
    refine (c_rSpan HS.out.sl at_ x inc line HE.out).mono ?_
    rintro e w3 ⟨rfl, hb⟩
    have HT := Aside0.mk (HS.out.two hb)
    clear hb HS c0 c1 c2
    have HS := HT
    clear HT
    simp only []
    go_wp2_with fail
    refine (c_Begins HS.out.sl HF.out).mono ?_
    rintro e w4 ⟨rfl, hb⟩
    have HT := Aside0.mk (HS.out.two hb)
    clear hb HS
    have HS := HT
    clear HT
    go_wp2_with fail
    refine (c_Begins HS.out.sl HTO.out).mono ?_
    rintro e w5 ⟨rfl, hb⟩
    have HT := Aside0.mk (HS.out.two hb)
    clear hb HS
    have HS := HT
    clear HT
    go_wp2_with fail
    go_ret
    exact ⟨rfl, HS.out.bel⟩
end
end Go.Proofs.Ytiibjehnlphabaa

end

section
namespace Go.Proofs.Ytiibjehnlphabaa.moveSpans
open Go.ChangeShapes Go.WideShapes Go.ChangeAt Go.RowKit
set_option linter.unusedVariables false
theorem own : ownKnob Try.prog.godebug = none := by kernel_rfl
theorem laidOut : laidOutB Try.prog = true := by kernel_rfl
theorem cells25 : Try.prog.cellsOf 25 = 3 := by kernel_rfl
def IsRow (k : IntKind) (w : World) (a : Option Addr) (len cap : Nat) (zs : List Int) : Prop :=
  (a = none ∧ len = 0 ∧ cap = 0 ∧ zs = []) ∨
  ∃ x, a = some x ∧ len ≤ cap ∧ cap ≤ maxLen ∧ zs.length = cap ∧ (∀ i, i < zs.length → w.cell? (x.add i) = some (.int k (zs.getD i 0))) ∧ ∀ n ∈ zs, (Lit.int k n).wf = true
set_option maxRecDepth 100000 in
theorem lifted (os : Os) (started : os.Started) (H : Type) (enc : TypeId × Value → H) :
    ReturnsInHanded {} Try.checked os 11 .any (Rows.moveSpansSpec.pre6 enc Try.prog Try.f11 Rows.moveSpansRow.domain false) (Rows.moveSpansSpec.post enc Try.prog Try.f11 false true false false) := by
  refine returnsInHanded_of_change_sized (C := Try.checked) own started (by kernel_rfl) Try.func11
    (ChangeSpec.witness6 (enc := enc) (C := Try.checked) false ⟨#[], #[.slice none 0 0, .int .i64 0, .agg #[.int .i64 0, .bool false, .bool false]], []⟩ 8 (by kernel_rfl) (by kernel_rfl) (by kernel_rfl) (by kernel_rfl)) ?_
  intro W base args ds gs before hval0 hW hcnd hsz0 _
  have hsz : (DataW.weightsEach Try.prog (Try.f11.params.toList ++ Rows.moveSpansSpec.plain.varTypes Try.prog) (ds ++ gs)).all (· ≤ reachBytes) = true := hsz0
  have hval : ∀ (j : Nat) t v, Try.f11.params[j]? = some t → args[j]? = some v → Value.okWide Try.prog W .any base t v := hval0
  have hW' := hW
  obtain ⟨p, q, hA0, hV, rfl, hfz, hnd⟩ := hW
  have hA : DataW.TrodAll enc Try.prog W 0 (fun _ => true) true Try.f11.params.toList args.toList ds p := hA0
  rw [Try.params11] at hA hval hsz
  obtain ⟨v0, vs0, d0, ds0, p0, q0, hargs, rfl, rfl, h0, r0⟩ := trodAll_cons hA
  obtain ⟨v1, vs1, d1, ds1, p1, q1, rfl, rfl, rfl, h1, r1⟩ := trodAll_cons r0
  obtain ⟨v2, vs2, d2, ds2, p2, q2, rfl, rfl, rfl, h2, r2⟩ := trodAll_cons r1
  obtain ⟨rfl, rfl, rfl⟩ := trodAll_nil r2
  obtain rfl : args = #[v0, v1, v2] := by cases args; simp_all
  obtain ⟨rfl, rfl⟩ := trodVars_none hV
  obtain ⟨a0, len0, cap0, rfl⟩ := okWide_slice Try.underlying23 (hval 0 23 v0 rfl rfl)
  have k0 := h0
  have lt0 : ∀ x ∈ p0, x.block < W.heap.size := by obtain ⟨m, hm⟩ := k0; exact DataW.trod_lt m _ _ _ hm
  obtain ⟨z0, w0⟩ : ∃ zs, IsRow .u8 W a0 len0 cap0 zs := by
    obtain ⟨fuel, hf⟩ := h0
    rcases open_ints Try.underlying23 Try.underlying5 (by kernel_rfl) hf with ⟨hcs, _⟩ | ⟨x, l, c, zs, hcs, _, hl, hm, hz, _, hcell, hwz⟩
    · simp [Value.cells] at hcs
      obtain ⟨rfl, rfl, rfl⟩ := hcs
      exact ⟨[], .inl ⟨rfl, rfl, rfl, rfl⟩⟩
    · simp [Value.cells] at hcs
      obtain ⟨rfl, rfl, rfl⟩ := hcs
      exact ⟨zs, .inr ⟨_, rfl, hl, hm, by simpa using hz, hcell, hwz⟩⟩
  have y0 : len0 * 1 ≤ 140737488351232 := Go.Proofs.YtiibjehnlphabaaW.PrintWords.sized_ints hsz (j := 0) (t := 23) rfl rfl Try.underlying23 Try.underlying5 (by kernel_rfl) (by kernel_rfl) h0
  obtain ⟨l0, rfl, hS0⟩ := row_sl w0 y0
  obtain ⟨a1, rfl, rfl, rfl, w1⟩ := open_int Try.underlying3 (hval 1 3 v1 rfl rfl) h1
  have k2 := h2
  have lt2 : ∀ x ∈ p2, x.block < W.heap.size := by obtain ⟨m, hm⟩ := k2; exact DataW.trod_lt m _ _ _ hm
  obtain ⟨c20, c21, c22, y20, y21, y22, m2, rfl, rfl, rfl, hy20, hy21, hy22⟩ := Joins.open_agg3 Try.underlying25 (by kernel_rfl) cells25 (hval 2 25 v2 rfl rfl) h2
  obtain ⟨n2, e20, rfl, w20⟩ := DataW.trod_int Try.underlying3 hy20
  obtain ⟨f2, e21, rfl⟩ := DataW.trod_bool Try.underlying4 hy21
  obtain ⟨g2, e22, rfl⟩ := DataW.trod_bool Try.underlying4 hy22
  simp at e20 e21 e22
  subst e20 e21 e22
  clear hA0 hval0 hsz0 hsz
  refine (lawSpans_calls hS0 a1 w1 n2 w20 f2 g2).mono fun e W' ⟨he, bel⟩ => ?_
  subst he
  exact ⟨_, rfl, _, _, _, [], _, [], hW', trodAll_mk1 (shut_bool Try.underlying4 _), (trodAll_cons_mk (Below.trod laidOut (by kernel_rfl) (of_decide_eq_true (by kernel_rfl)) k0 bel lt0) (trodAll_cons_mk (shut_int Try.underlying3 w1) (trodAll_cons_mk (Below.trod laidOut (by kernel_rfl) (of_decide_eq_true (by kernel_rfl)) k2 bel lt2) trodAll_mk0))), rfl, bel.frame _, fun h => by cases h⟩
theorem over : Rows.moveSpansRow.holds Try.pinned (OpenSpec.ofChange Rows.moveSpansSpec) :=
  OpenClaim.holds_of_wide 11 Try.f11 rfl rfl rfl rfl rfl rfl rfl ⟨rfl, rfl, rfl, rfl, rfl⟩ rfl rfl rfl rfl rfl (by kernel_rfl) Try.func11 (by kernel_rfl)
    (of_decide_eq_true (by kernel_rfl)) (by unfold Func.isWrapper; first | (rw [if_pos (by decide +kernel)]; kernel_rfl) | (rw [if_neg (by decide +kernel)]; exact ⟨rfl, rfl⟩))
    (fun os started H enc _ => lifted os started H enc)
theorem proved : Rows.MoveSpansSaid := over
end Go.Proofs.Ytiibjehnlphabaa.moveSpans
namespace Go.Proofs.Ytiibjehnlphabaa
/-- The row, under a short name, for the claim. -/
theorem moveSpans_holds : Rows.MoveSpansSaid := moveSpans.proved
end Go.Proofs.Ytiibjehnlphabaa

end
