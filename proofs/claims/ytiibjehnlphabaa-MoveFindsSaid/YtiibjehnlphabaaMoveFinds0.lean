/- The row of law MoveFinds of chapter 23 holds, for every input that the row names (part 0). Conditions: none. -/
import Derived.WalkKit
import Derived.Deep.QuietTactic
import Derived.BigQuiet
import Derived.Deep.RegionHeld3
import Derived.IntWalk
import Derived.Test.YtiibjehnlphabaaRows
import Derived.ProofKit
import Derived.OpenShut
import Derived.ShutString
import Derived.ChangeOld
import Derived.Below
import Derived.SizedLaws
import Derived.Test.YtiibjehnlphabaaWSized
import Derived.Test.YtiibjehnlphabaaMB8
section
namespace Go.Proofs.Ytiibjehnlphabaa
open Go.RowKit Go.Proofs.YtiibjehnlphabaaW.PrintWords Go.Proofs.YtiibjehnlphabaaW.PrintMore Q
set_option linter.unusedVariables false
set_option linter.unusedSimpArgs false
section
variable {w : World} {A : Option Addr} {c : Nat} {l : List Int}
/-- A letter cut out of the bytes. -/
theorem cut_sl {b off : Nat} (h : Sl w (some ⟨b, off, none⟩) c l) {a : Nat} (ha : a < l.length) : Sl w (some ⟨b, off + a, none⟩) (c - a) ((l.drop a).take (sz l a)) := by
  have ho := on_gt ha
  have hcap := h.cap
  have hl1 : (l.take (on l a)).length = on l a := by rw [List.length_take]; omega
  have hl2 : ((l.take (on l a)).drop a).length = on l a - a := by rw [List.length_drop, hl1]
  have r1 := Kd.C_drop (m := a) (Kd.C_take (m := on l a) h.reads ho.2.1) (by omega) (c := c) (by omega)
  have e : (l.take (on l a)).drop a = (l.drop a).take (sz l a) := by
    unfold on
    rw [List.drop_take, Nat.add_sub_cancel_left]
  rw [if_neg (by omega)] at r1
  have e2 : (⟨b, off, none⟩ : Addr).add (a * (Kd.int .u8).sz) = ⟨b, off + a, none⟩ := by
    rw [show (Kd.int .u8).sz = 1 from rfl, Nat.mul_one]
    unfold Addr.add
    split <;> simp_all
  simp only [Option.map_some, e2] at r1
  rw [e] at r1
  refine ⟨?_, ?_, (h.ok.drop a).take _⟩
  · exact r1
  · rw [← e, hl2]; omega
theorem cut_len {l : List Int} {a : Nat} (ha : a < l.length) : ((l.drop a).take (sz l a)).length = sz l a := by
  have := sz_pos ha
  rw [List.length_take, List.length_drop]; omega
theorem c_sizeAt (h : Sl w A c l) (i : Nat) : Calls Try.prog 25 #[.slice A l.length c, .int .i64 (i : Int)] w fun e w' => e = .returned (.int .i64 (sz l i : Int)) ∧ Below w.heap.size w w' := by
  have HS := Aside0.mk (Ls.begin_ h)
  clear h
  go_enter Try.func25, Try.ntmps25
  go_wp2_with fail
  refine (c_next HS.out.sl i).mono ?_
  rintro e w1 ⟨rfl, hb⟩
  have HT := Aside0.mk (HS.out.two hb)
  clear hb HS
  have HS := HT
  clear HT
  go_wp2_with fail
  go_ret
  exact ⟨rfl, HS.out.bel⟩
set_option maxRecDepth 100000 in
set_option maxHeartbeats 4000000 in
theorem lawFinds_out (hS : Sl w A c l) (at_ : Int) (n : Int) (hn1 : 0 ≤ n) (hn2 : n ≤ 255) (h : 500 < l.length ∨ ¬ rest l (place l at_) < l.length) :
    Calls Try.prog 8 #[.slice A l.length c, .int .i64 at_, .int .u8 n] w fun e w' => e = .returned (.bool true) ∧ Below w.heap.size w w' := by
  have HS := Aside0.mk (Ls.begin_ hS)
  have hsz := hS.ok.size
  clear hS
  by_cases hl : 500 < l.length
  · have t1 : decide ((500 : Int) < (l.length : Int)) = true := decide_eq_true (by omega)
    have t1' : decide (500 < l.length) = true := decide_eq_true (by omega)
    go_enter Try.func8, Try.ntmps8
    go_wp2_with fail
    refine (awake_calls w).mono ?_
    rintro e w1 ⟨rfl, hb⟩
    have HT := Aside0.mk (HS.out.two hb)
    clear hb HS
    have HS := HT
    clear HT
    go_wp2_with fail
    go_ret
    exact ⟨rfl, HS.out.bel⟩
  · have t1 : decide ((500 : Int) < (l.length : Int)) = false := decide_eq_false (by omega)
    have t1' : decide (500 < l.length) = false := decide_eq_false (by omega)
    have ha : ¬ rest l (place l at_) < l.length := by omega
    have hz := sz_out ha
    have hz2 : (((sz l (rest l (place l at_)) : Nat) : Int) == 0) = true := by rw [hz]; rfl
    clear h
    go_enter Try.func8, Try.ntmps8
    go_wp2_with fail
    refine (awake_calls w).mono ?_
    rintro e w1 ⟨rfl, hb⟩
    have HT := Aside0.mk (HS.out.two hb)
    clear hb HS
    have HS := HT
    clear HT
    go_wp2_with fail
    refine (c_Rest HS.out.sl at_).mono ?_
    rintro e w2 ⟨rfl, hb⟩
    have HT := Aside0.mk (HS.out.two hb)
    clear hb HS
    have HS := HT
    clear HT
    generalize rest l (place l at_) = a at *
    have hn3 : 0 ≤ n % 4 := by omega
    have hn4 : n % 4 < 4 := by omega
    go_wp2_with fail
    refine (c_next HS.out.sl a).mono ?_
    rintro e w3 ⟨rfl, hb⟩
    have HT := Aside0.mk (HS.out.two hb)
    clear hb HS
    have HS := HT
    clear HT
    go_wp2_with fail
    go_ret
    exact ⟨rfl, HS.out.bel⟩
set_option maxRecDepth 100000 in
set_option maxHeartbeats 4000000 in
theorem lawFinds_nl {b off : Nat} (hS : Sl w (some ⟨b, off, none⟩) c l) (at_ : Int) (n : Int) (hn1 : 0 ≤ n) (hn2 : n ≤ 255) (hl : ¬ 500 < l.length) (ha : rest l (place l at_) < l.length) (h10 : l.getD (rest l (place l at_)) 0 = 10) :
    Calls Try.prog 8 #[.slice (some ⟨b, off, none⟩) l.length c, .int .i64 at_, .int .u8 n] w fun e w' => e = .returned (.bool true) ∧ Below w.heap.size w w' := by
  have HS := Aside0.mk (Ls.begin_ hS)
  have hsz := hS.ok.size
  clear hS
  have t1 : decide ((500 : Int) < (l.length : Int)) = false := decide_eq_false (by omega)
  have t1' : decide (500 < l.length) = false := decide_eq_false (by omega)
  have hz := sz_pos ha
  have hz2 : (((sz l (rest l (place l at_)) : Nat) : Int) == 0) = false := beq_eq_false_iff_ne.2 (by omega)
  have H10 := Aside0.mk h10
  clear h10
  go_enter Try.func8, Try.ntmps8
  go_wp2_with fail
  refine (awake_calls w).mono ?_
  rintro e w1 ⟨rfl, hb⟩
  have HT := Aside0.mk (HS.out.two hb)
  clear hb HS
  have HS := HT
  clear HT
  go_wp2_with fail
  refine (c_Rest HS.out.sl at_).mono ?_
  rintro e w2 ⟨rfl, hb⟩
  have HT := Aside0.mk (HS.out.two hb)
  clear hb HS
  have HS := HT
  clear HT
  generalize rest l (place l at_) = a at *
  have hn3 : 0 ≤ n % 4 := by omega
  have hn4 : n % 4 < 4 := by omega
  go_wp2_with fail
  refine (c_next HS.out.sl a).mono ?_
  rintro e w3 ⟨rfl, hb⟩
  have HT := Aside0.mk (HS.out.two hb)
  clear hb HS
  have HS := HT
  clear HT
  have hcell := (HS.out.sl.at_ ha)
  obtain ⟨b', off', he, hcell⟩ := hcell
  cases he
  rw [H10.out] at hcell
  go_wp2_with fail
  go_ret
  exact ⟨rfl, HS.out.bel⟩
set_option maxRecDepth 100000 in
set_option maxHeartbeats 4000000 in
theorem lawFinds_in {b off : Nat} (hS : Sl w (some ⟨b, off, none⟩) c l) (at_ : Int) (n : Int) (hn1 : 0 ≤ n) (hn2 : n ≤ 255) (hl : ¬ 500 < l.length) (ha : rest l (place l at_) < l.length) (h10 : ¬ l.getD (rest l (place l at_)) 0 = 10) :
    Calls Try.prog 8 #[.slice (some ⟨b, off, none⟩) l.length c, .int .i64 at_, .int .u8 n] w fun e w' => e = .returned (.bool true) ∧ Below w.heap.size w w' := by
  have HS := Aside0.mk (Ls.begin_ hS)
  have hsz := hS.ok.size
  have hcap := hS.cap
  clear hS
  have t1 : decide ((500 : Int) < (l.length : Int)) = false := decide_eq_false (by omega)
  have t1' : decide (500 < l.length) = false := decide_eq_false (by omega)
  have hz := sz_pos ha
  have hz2 : (((sz l (rest l (place l at_)) : Nat) : Int) == 0) = false := beq_eq_false_iff_ne.2 (by omega)
  have HAB := Aside0.mk (rest_rests (place_begins l at_)).1
  go_enter Try.func8, Try.ntmps8
  go_wp2_with fail
  refine (awake_calls w).mono ?_
  rintro e w1 ⟨rfl, hb⟩
  have HT := Aside0.mk (HS.out.two hb)
  clear hb HS
  have HS := HT
  clear HT
  go_wp2_with fail
  refine (c_Rest HS.out.sl at_).mono ?_
  rintro e w2 ⟨rfl, hb⟩
  have HT := Aside0.mk (HS.out.two hb)
  clear hb HS
  have HS := HT
  clear HT
  generalize rest l (place l at_) = a at *
  have hn3 : 0 ≤ n % 4 := by omega
  have hn4 : n % 4 < 4 := by omega
  go_wp2_with fail
  refine (c_next HS.out.sl a).mono ?_
  rintro e w3 ⟨rfl, hb⟩
  have HT := Aside0.mk (HS.out.two hb)
  clear hb HS
  have HS := HT
  clear HT
  have hcell := (HS.out.sl.at_ ha)
  obtain ⟨b', off', he, hcell⟩ := hcell
  cases he
  have hx : ∃ x, x = l.getD a 0 := ⟨_, rfl⟩
  obtain ⟨x, hx⟩ := hx
  rw [← hx] at hcell h10
  have h10' : (x == 10) = false := beq_eq_false_iff_ne.2 h10
  clear hx h10
  have hca : ¬ c = a := by omega
  have b1 : (a : Int) ≤ (a : Int) + (sz l a : Int) := by omega
  have b2 : (a : Int) + (sz l a : Int) ≤ (c : Int) := by omega
  go_wp2_with fail
  have ek : (((1 + n % 4).toNat : Nat) : Int) = 1 + n % 4 := by omega
  have HN := Aside0.mk (cut_len ha)
  have HA := fun (w : World) (h : Sl w (some ⟨b, off, none⟩) c l) => cut_sl h ha
  have HA := Aside0.mk HA
  clear hcell h10'
  rcases finds_step (k := (1 + n % 4).toNat) HAB.out ha (by omega) with ⟨m1, m2⟩ | ⟨g, t, m1, m2, hg1, hg2, hg3, ht1, ht2, hst, m3⟩
  · rw [ek] at m1 m2
    have M2 := Aside0.mk m2
    clear m2 ek
    generalize (l.drop a).take (sz l a) = arg at *
    refine (c_go2 HS.out.sl (HA.out _ HS.out.sl) HN.out HAB.out (toList1 102) (by omega) (by omega) false _ m1).mono ?_
    rintro e w4 ⟨rfl, hb⟩
    clear m1
    have HT := Aside0.mk ((HS.out.two hb).goal 0 false false)
    clear hb HS
    have HS := HT
    clear HT
    simp only [goV_none]
    go_wp2_with fail
    refine (c_go2 HS.out.sl (HA.out _ HS.out.sl) HN.out HAB.out (toList1 116) (by omega) (by omega) false _ M2.out).mono ?_
    rintro e w5 ⟨rfl, hb⟩
    have HT := Aside0.mk ((HS.out.two hb).goal 0 false false)
    clear hb HS
    have HS := HT
    clear HT
    simp only [goV_none]
    go_wp2_with fail
    go_ret
    exact ⟨rfl, HS.out.bel⟩
  · rw [ek] at m1 m2 m3
    have M2 := Aside0.mk m2
    have M3 := Aside0.mk m3
    have HG1 := Aside0.mk hg1
    have HT1 := Aside0.mk ht1
    have HST := Aside0.mk hst
    have HGL := fun (w : World) (h : Sl w (some ⟨b, off, none⟩) c l) => cut_sl h hg2
    have HGL := Aside0.mk HGL
    have HGN := Aside0.mk (cut_len hg2)
    rw [hg3] at HGL HGN
    clear m2 m3 hg1 ht1 hst ek hg3
    generalize (l.drop a).take (sz l a) = arg at *
    refine (c_go2 HS.out.sl (HA.out _ HS.out.sl) HN.out HAB.out (toList1 102) (by omega) (by omega) false _ m1).mono ?_
    rintro e w4 ⟨rfl, hb⟩
    clear m1
    have HT := Aside0.mk ((HS.out.two hb).goal g true false)
    clear hb HS
    have HS := HT
    clear HT
    simp only [goV_incl]
    go_wp2_with fail
    refine (c_go2 HS.out.sl (HA.out _ HS.out.sl) HN.out HAB.out (toList1 116) (by omega) (by omega) false _ M2.out).mono ?_
    rintro e w5 ⟨rfl, hb⟩
    have HT := Aside0.mk ((HS.out.two hb).goal t true false)
    clear hb HS
    have HS := HT
    clear HT
    simp only [goV_incl]
    obtain ⟨c0, c1, c2⟩ := HS.out.cells (g := w4.heap.size) (x := g) (y := true) (z := false) (by simp)
    obtain ⟨d0, d1, d2⟩ := HS.out.cells (g := w5.heap.size) (x := t) (y := true) (z := false) (by simp)
    go_wp2_with fail
    refine (c_next HS.out.sl g).mono ?_
    rintro e w6 ⟨rfl, hb⟩
    have HT := Aside0.mk (HS.out.two hb)
    clear hb HS c0 c1 c2 d0 d1 d2
    have HS := HT
    clear HT
    go_wp2_with fail
    have hzg := sz_pos hg2
    have s1 : IntKind.i64.wrap ((g : Int) + (sz l g : Int)) = (g : Int) + (sz l g : Int) := IntWalk.i64_in _ (by omega)
    have s2 : IntKind.i64.wrap ((t : Int) + (sz l t : Int)) = (t : Int) + (sz l t : Int) := IntWalk.i64_in _ (by omega)
    have s3 : ((t : Int) + (sz l t : Int) == (g : Int)) = true := beq_iff_eq.2 (by omega)
    have s3' : ((t : Int) + (sz l t : Int) != (g : Int)) = false := by rw [bne, s3]; rfl
    have hcg : ¬ c = g := by omega
    have b3 : (g : Int) ≤ (g : Int) + (sz l g : Int) := by omega
    have b4 : (g : Int) + (sz l g : Int) ≤ (c : Int) := by omega
    have hps : start l (place l (g : Int)) = start l (place l (a : Int)) := by rw [place_self HG1.out, place_self HAB.out]; exact HST.out
    have s4 : (((start l (place l (g : Int)) : Nat) : Int) == ((start l (place l (a : Int)) : Nat) : Int)) = true := beq_iff_eq.2 (by omega)
    have s4' : (((start l (place l (g : Int)) : Nat) : Int) != ((start l (place l (a : Int)) : Nat) : Int)) = false := by rw [bne, s4]; rfl
    have s5 : (start l (place l (g : Int)) == start l (place l (a : Int))) = true := beq_iff_eq.2 hps
    have s5' : (start l (place l (g : Int)) != start l (place l (a : Int))) = false := by rw [bne, s5]; rfl
    have fS : ∀ w', Ls w w' (some ⟨b, off, none⟩) c l [(w5.heap.size, (t : Int), true, false), (w4.heap.size, (g : Int), true, false)] →
        (w'.cell? ⟨w4.heap.size, 0, none⟩ = some (.int .i64 (g : Int)) ∧ w'.cell? ⟨w4.heap.size, 1, none⟩ = some (.bool true) ∧ w'.cell? ⟨w5.heap.size, 0, none⟩ = some (.int .i64 (t : Int)) ∧
          (convert 23 9 (.slice (some ⟨b, off + g, none⟩) (sz l g) (c - g))).run Try.prog w' = .ok (.string (strOfNums arg)) w' ∧ (convert 23 9 (.slice (some ⟨b, off + a, none⟩) (sz l a) (c - a))).run Try.prog w' = .ok (.string (strOfNums arg)) w') := by
      intro w' h
      obtain ⟨c0, c1, c2⟩ := h.cells (g := w4.heap.size) (x := g) (y := true) (z := false) (by simp)
      obtain ⟨d0, d1, d2⟩ := h.cells (g := w5.heap.size) (x := t) (y := true) (z := false) (by simp)
      have e1 := Kd.C_string (P := Try.prog) (c := c - g) Try.underlying23 Try.underlying5 Try.underlying9 (HGL.out w' h.sl).reads
      have e2 := Kd.C_string (P := Try.prog) (c := c - a) Try.underlying23 Try.underlying5 Try.underlying9 (HA.out w' h.sl).reads
      rw [HGN.out] at e1
      rw [HN.out] at e2
      exact ⟨c0, c1, d0, e1, e2⟩
    have FS := Aside0.mk fS
    have n1 : ((g : Int) + (sz l g : Int)).toNat = g + sz l g := by omega
    clear fS hps
    generalize strOfNums arg = B at *
    go_region_held3 (fun w' => w'.cell? ⟨w4.heap.size, 0, none⟩ = some (.int .i64 (g : Int)) ∧ w'.cell? ⟨w4.heap.size, 1, none⟩ = some (.bool true) ∧ w'.cell? ⟨w5.heap.size, 0, none⟩ = some (.int .i64 (t : Int)) ∧
          (convert 23 9 (.slice (some ⟨b, off + g, none⟩) (sz l g) (c - g))).run Try.prog w' = .ok (.string B) w' ∧ (convert 23 9 (.slice (some ⟨b, off + a, none⟩) (sz l a) (c - a))).run Try.prog w' = .ok (.string B) w')
      (first | exact FS.out _ HS.out | exact FS.out _ (HS.out.two (below_drew (Below.refl _ _))))
      (first
        | (go_at_call 25; refine (c_sizeAt (HS.out.two (by first | exact Below.refl _ _ | exact below_drew (Below.refl _ _) | exact pw_below_drewN (Below.refl _ _) _)).sl t).mono ?_; rintro e w7 ⟨rfl, hd⟩; have HT := Aside0.mk (HS.out.step (by first | exact Below.refl _ _ | exact below_drew (Below.refl _ _) | exact pw_below_drewN (Below.refl _ _) _) hd); clear hd HS; have HS := HT; clear HT)
        | (go_at_call 24; refine (c_StartP (HS.out.two (by first | exact Below.refl _ _ | exact below_drew (Below.refl _ _) | exact pw_below_drewN (Below.refl _ _) _)).sl _).mono ?_; rintro e w8 ⟨rfl, hd⟩; have HT := Aside0.mk (HS.out.step (by first | exact Below.refl _ _ | exact below_drew (Below.refl _ _) | exact pw_below_drewN (Below.refl _ _) _) hd); clear hd HS; have HS := HT; clear HT))
    all_goals (
      clear s1 s2 s3 s3' s4 s4' s5 s5' n1
      obtain ⟨c0, c1, c2⟩ := HS.out.cells (g := w4.heap.size) (x := g) (y := true) (z := false) (by simp)
      go_wp2_with fail
      refine (c_go2 HS.out.sl (HA.out _ HS.out.sl) HN.out HG1.out (toList1 70) (by omega) (by omega) false _ M3.out).mono ?_
      rintro e w9 ⟨rfl, hb⟩
      clear c0 c1 c2
      have HT := Aside0.mk ((HS.out.two hb).goal a false false)
      clear hb HS
      have HS := HT
      clear HT
      simp only [goV_plain]
      obtain ⟨c0, c1, c2⟩ := HS.out.cells (g := w9.heap.size) (x := a) (y := false) (z := false) (by simp)
      go_wp2_with fail
      go_ret
      exact ⟨rfl, HS.out.bel⟩)
theorem lawFinds_calls (hS : Sl w A c l) (at_ : Int) (h1 : (Lit.int .i64 at_).wf = true) (n : Int) (h2 : (Lit.int .u8 n).wf = true) :
    Calls Try.prog 8 #[.slice A l.length c, .int .i64 at_, .int .u8 n] w fun e w' => e = .returned (.bool true) ∧ Below w.heap.size w w' := by
  have hn : 0 ≤ n ∧ n ≤ 255 := by
    simp [Lit.wf] at h2
    have e1 : IntKind.u8.min = 0 := by decide
    have e2 : IntKind.u8.max = 255 := by decide
    omega
  by_cases h : 500 < l.length ∨ ¬ rest l (place l at_) < l.length
  · exact lawFinds_out hS at_ n hn.1 hn.2 h
  · have ha : rest l (place l at_) < l.length := by omega
    obtain ⟨b, off, rfl, _⟩ := hS.at_ ha
    by_cases h10 : l.getD (rest l (place l at_)) 0 = 10
    · exact lawFinds_nl hS at_ n hn.1 hn.2 (by omega) ha h10
    · exact lawFinds_in hS at_ n hn.1 hn.2 (by omega) ha h10
end
end Go.Proofs.Ytiibjehnlphabaa

end

section
namespace Go.Proofs.Ytiibjehnlphabaa.moveFinds
open Go.ChangeShapes Go.WideShapes Go.ChangeAt Go.RowKit
set_option linter.unusedVariables false
theorem own : ownKnob Try.prog.godebug = none := by kernel_rfl
theorem laidOut : laidOutB Try.prog = true := by kernel_rfl
def IsRow (k : IntKind) (w : World) (a : Option Addr) (len cap : Nat) (zs : List Int) : Prop :=
  (a = none ∧ len = 0 ∧ cap = 0 ∧ zs = []) ∨
  ∃ x, a = some x ∧ len ≤ cap ∧ cap ≤ maxLen ∧ zs.length = cap ∧ (∀ i, i < zs.length → w.cell? (x.add i) = some (.int k (zs.getD i 0))) ∧ ∀ n ∈ zs, (Lit.int k n).wf = true
set_option maxRecDepth 100000 in
theorem lifted (os : Os) (started : os.Started) (H : Type) (enc : TypeId × Value → H) :
    ReturnsInHanded {} Try.checked os 8 .any (Rows.moveFindsSpec.pre6 enc Try.prog Try.f8 Rows.moveFindsRow.domain false) (Rows.moveFindsSpec.post enc Try.prog Try.f8 false true false false) := by
  refine returnsInHanded_of_change_sized (C := Try.checked) own started (by kernel_rfl) Try.func8
    (ChangeSpec.witness6 (enc := enc) (C := Try.checked) false ⟨#[], #[.slice none 0 0, .int .i64 0, .int .u8 0], []⟩ 8 (by kernel_rfl) (by kernel_rfl) (by kernel_rfl) (by kernel_rfl)) ?_
  intro W base args ds gs before hval0 hW hcnd hsz0 _
  have hsz : (DataW.weightsEach Try.prog (Try.f8.params.toList ++ Rows.moveFindsSpec.plain.varTypes Try.prog) (ds ++ gs)).all (· ≤ reachBytes) = true := hsz0
  have hval : ∀ (j : Nat) t v, Try.f8.params[j]? = some t → args[j]? = some v → Value.okWide Try.prog W .any base t v := hval0
  have hW' := hW
  obtain ⟨p, q, hA0, hV, rfl, hfz, hnd⟩ := hW
  have hA : DataW.TrodAll enc Try.prog W 0 (fun _ => true) true Try.f8.params.toList args.toList ds p := hA0
  rw [Try.params8] at hA hval hsz
  obtain ⟨v0, vs0, d0, ds0, p0, q0, hargs, rfl, rfl, h0, r0⟩ := trodAll_cons hA
  obtain ⟨v1, vs1, d1, ds1, p1, q1, rfl, rfl, rfl, h1, r1⟩ := trodAll_cons r0
  obtain ⟨v2, vs2, d2, ds2, p2, q2, rfl, rfl, rfl, h2, r2⟩ := trodAll_cons r1
  obtain ⟨rfl, rfl, rfl⟩ := trodAll_nil r2
  obtain rfl : args = #[v0, v1, v2] := by cases args; simp_all
  obtain ⟨rfl, rfl⟩ := trodVars_none hV
  obtain ⟨a0, len0, cap0, rfl⟩ := okWide_slice Try.underlying23 (hval 0 23 v0 rfl rfl)
  have k0 := h0
  have lt0 : ∀ x ∈ p0, x.block < W.heap.size := by obtain ⟨m, hm⟩ := k0; exact DataW.trod_lt m _ _ _ hm
  obtain ⟨z0, w0⟩ : ∃ zs, IsRow .u8 W a0 len0 cap0 zs := by
    obtain ⟨fuel, hf⟩ := h0
    rcases open_ints Try.underlying23 Try.underlying5 (by kernel_rfl) hf with ⟨hcs, _⟩ | ⟨x, l, c, zs, hcs, _, hl, hm, hz, _, hcell, hwz⟩
    · simp [Value.cells] at hcs
      obtain ⟨rfl, rfl, rfl⟩ := hcs
      exact ⟨[], .inl ⟨rfl, rfl, rfl, rfl⟩⟩
    · simp [Value.cells] at hcs
      obtain ⟨rfl, rfl, rfl⟩ := hcs
      exact ⟨zs, .inr ⟨_, rfl, hl, hm, by simpa using hz, hcell, hwz⟩⟩
  have y0 : len0 * 1 ≤ 140737488351232 := Go.Proofs.YtiibjehnlphabaaW.PrintWords.sized_ints hsz (j := 0) (t := 23) rfl rfl Try.underlying23 Try.underlying5 (by kernel_rfl) (by kernel_rfl) h0
  obtain ⟨l0, rfl, hS0⟩ := row_sl w0 y0
  obtain ⟨a1, rfl, rfl, rfl, w1⟩ := open_int Try.underlying3 (hval 1 3 v1 rfl rfl) h1
  obtain ⟨a2, rfl, rfl, rfl, w2⟩ := open_int Try.underlying5 (hval 2 5 v2 rfl rfl) h2
  clear hA0 hval0 hsz0 hsz
  refine (lawFinds_calls hS0 a1 w1 a2 w2).mono fun e W' ⟨he, bel⟩ => ?_
  subst he
  exact ⟨_, rfl, _, _, _, [], _, [], hW', trodAll_mk1 (shut_bool Try.underlying4 _), (trodAll_cons_mk (Below.trod laidOut (by kernel_rfl) (of_decide_eq_true (by kernel_rfl)) k0 bel lt0) (trodAll_cons_mk (shut_int Try.underlying3 w1) (trodAll_cons_mk (shut_int Try.underlying5 w2) trodAll_mk0))), rfl, bel.frame _, fun h => by cases h⟩
theorem over : Rows.moveFindsRow.holds Try.pinned (OpenSpec.ofChange Rows.moveFindsSpec) :=
  OpenClaim.holds_of_wide 8 Try.f8 rfl rfl rfl rfl rfl rfl rfl ⟨rfl, rfl, rfl, rfl, rfl⟩ rfl rfl rfl rfl rfl (by kernel_rfl) Try.func8 (by kernel_rfl)
    (of_decide_eq_true (by kernel_rfl)) (by unfold Func.isWrapper; first | (rw [if_pos (by decide +kernel)]; kernel_rfl) | (rw [if_neg (by decide +kernel)]; exact ⟨rfl, rfl⟩))
    (fun os started H enc _ => lifted os started H enc)
theorem proved : Rows.MoveFindsSaid := over
end Go.Proofs.Ytiibjehnlphabaa.moveFinds
namespace Go.Proofs.Ytiibjehnlphabaa
/-- The row, under a short name, for the claim. -/
theorem moveFinds_holds : Rows.MoveFindsSaid := moveFinds.proved
end Go.Proofs.Ytiibjehnlphabaa

end
