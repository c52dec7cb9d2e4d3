/- Part 7 of what the proofs of chapter 23 share. A program joined it out of texts of this work; the functions named X.f and their contracts X.calls were first written by the print tool of the kit, in a copy that takes given contracts. -/
import Derived.Laws.IdiomStrings
import Derived.WalkKit
import Derived.Deep.QuietTactic
import Derived.BigQuiet
import Derived.Deep.RegionHeld3
import Derived.IntWalk
import Derived.Test.YtiibjehnlphabaaMB6
section
namespace Go.Proofs.Ytiibjehnlphabaa
open Go.RowKit Go.Proofs.YtiibjehnlphabaaW.PrintWords Go.Proofs.YtiibjehnlphabaaW.PrintMore Q
set_option linter.unusedVariables false
set_option linter.unusedSimpArgs false
section
variable {w : World} {g : Nat} {A : Option Addr} {c : Nat} {l : List Int} {i : Nat} {n : Nat} {op : Bool} {key : ByteArray} {A2 : Option Addr} {c2 : Nat} {a : List Int} {cn : Int}
/-- A string's bytes as numbers. -/
def nums_ (s : ByteArray) : List Int := s.data.toList.map fun b => (b.toNat : Int)
theorem bytesRow_C (w : World) (s : ByteArray) (hs : s.size ≤ 1000) (cap : Nat) (fr : Nat × Nat) : Kd.C (Kd.int .u8) ((w.alloc (.cells (bytesRow s cap) 5 fr)).drew) (some ⟨w.heap.size, 0, none⟩) (nums_ s).length (nums_ s) := by
  refine Kd.C_of_reads (enc := Value.int .u8) (d := (0 : Int)) (h1 := fun _ => rfl) ?_
  have hl : (nums_ s).length = s.data.size := by simp [nums_]
  refine ⟨rfl, by rw [hl]; change s.data.size ≤ 1000 at hs; omega, fun _ => ⟨_, rfl, fun j hj => ?_⟩⟩
  rw [hl] at hj
  have := World.cell?_alloc_mark w (bytesRow s cap) 5 fr j
  rw [Addr.add_lit, Nat.zero_add]
  refine this.trans ?_
  rw [bytesRow_at s cap j hj]
  simp [nums_, List.getD_eq_getElem?_getD, hj]
  rw [Array.getElem?_eq_getElem hj]
  rfl
theorem c_conv {w : World} (s : ByteArray) (hs : s.size ≤ 1000) (n cap : Nat) (hn : n = s.size) (hc : n ≤ cap) (fr : Nat × Nat) (x : Int) (hx : byteB x = true) (r : Int) (hr : idxOf (nums_ s) x = r) :
    Calls Try.prog 88 #[.slice (some ⟨w.heap.size, 0, none⟩) n cap, .int .u8 x] ((w.alloc (.cells (bytesRow s cap) 5 fr)).drew) fun e w' => e = .returned (.int .i64 r) ∧ Drawn0 ((w.alloc (.cells (bytesRow s cap) 5 fr)).drew) w' := by
  have hl : (nums_ s).length = n := by simp [nums_, hn]
  have h := bytesRow_C w s hs cap fr
  have hb : (nums_ s).all byteB = true := by
    rw [List.all_eq_true]
    intro y hy
    simp only [nums_, List.mem_map] at hy
    obtain ⟨b, -, rfl⟩ := hy
    have := b.toNat_lt
    simp [byteB]
    omega
  have h2 := bytes_IndexByte.calls (some ⟨w.heap.size, 0, none⟩) cap (nums_ s) x r _ h (by omega) (by unfold bytes_IndexByte.f; rw [if_pos ⟨hb, hx⟩, hr])
  rwa [hl] at h2
theorem c_six {w : World} (cap : Nat) (hc : 6 ≤ cap) (fr : Nat × Nat) (x : Int) (hx : byteB x = true) :
    Calls Try.prog 88 #[.slice (some ⟨w.heap.size, 0, none⟩) 6 cap, .int .u8 x] ((w.alloc (.cells (bytesRow (⟨#[40, 91, 123]⟩ ++ ⟨#[41, 93, 125]⟩) cap) 5 fr)).drew) fun e w' => e = .returned (.int .i64 (idxOf [40, 91, 123, 41, 93, 125] x)) ∧ Drawn0 ((w.alloc (.cells (bytesRow (⟨#[40, 91, 123]⟩ ++ ⟨#[41, 93, 125]⟩) cap) 5 fr)).drew) w' := by
  have e : (⟨#[40, 91, 123]⟩ ++ ⟨#[41, 93, 125]⟩ : ByteArray) = ⟨#[40, 91, 123, 41, 93, 125]⟩ := by decide
  rw [e]
  exact c_conv ⟨#[40, 91, 123, 41, 93, 125]⟩ (by decide) 6 cap rfl hc fr x hx _ rfl
theorem c_opens {w : World} (cap : Nat) (hc : 3 ≤ cap) (fr : Nat × Nat) (x : Int) (hx : byteB x = true) (r : Int) (hr : opens x = r) :
    Calls Try.prog 88 #[.slice (some ⟨w.heap.size, 0, none⟩) 3 cap, .int .u8 x] ((w.alloc (.cells (bytesRow ⟨#[40, 91, 123]⟩ cap) 5 fr)).drew) fun e w' => e = .returned (.int .i64 r) ∧ Drawn0 ((w.alloc (.cells (bytesRow ⟨#[40, 91, 123]⟩ cap) 5 fr)).drew) w' :=
  c_conv ⟨#[40, 91, 123]⟩ (by decide) 3 cap rfl hc fr x hx r hr
theorem c_closes {w : World} (cap : Nat) (hc : 3 ≤ cap) (fr : Nat × Nat) (x : Int) (hx : byteB x = true) (r : Int) (hr : closes x = r) :
    Calls Try.prog 88 #[.slice (some ⟨w.heap.size, 0, none⟩) 3 cap, .int .u8 x] ((w.alloc (.cells (bytesRow ⟨#[41, 93, 125]⟩ cap) 5 fr)).drew) fun e w' => e = .returned (.int .i64 r) ∧ Drawn0 ((w.alloc (.cells (bytesRow ⟨#[41, 93, 125]⟩ cap) 5 fr)).drew) w' :=
  c_conv ⟨#[41, 93, 125]⟩ (by decide) 3 cap rfl hc fr x hx r hr
def deepFrom (l : List Int) (o c : Int) (d : Int) (i : Nat) : Option Nat := deepF l o c (l.length - i) d i
theorem deepF_more (l : List Int) (o c : Int) : ∀ (f f' : Nat) (d : Int) (i : Nat), l.length - i ≤ f → l.length - i ≤ f' → deepF l o c f d i = deepF l o c f' d i
  | 0, 0, _, _, _, _ => rfl
  | 0, f' + 1, d, i, h, _ => by
    simp only [deepF]
    rw [if_neg (by omega)]
  | f + 1, 0, d, i, _, h => by
    simp only [deepF]
    rw [if_neg (by omega)]
  | f + 1, f' + 1, d, i, h, h' => by
    simp only [deepF]
    by_cases hc : i < l.length
    · rw [if_pos hc, if_pos hc]
      simp only [fun d => deepF_more l o c f f' d (i + 1) (by omega) (by omega)]
    · rw [if_neg hc, if_neg hc]
def stepF (x o c d : Int) : Int := if x = o then d + 1 else if x = c then d - 1 else d
def stepB (x o c d : Int) : Int := if x = o then d - 1 else if x = c then d + 1 else d
theorem deepFrom_eq (l : List Int) (o c d : Int) {i : Nat} (h : i < l.length) : deepFrom l o c d i = if stepF (l.getD i 0) o c d = 0 then some i else deepFrom l o c (stepF (l.getD i 0) o c d) (i + 1) := by
  unfold deepFrom
  obtain ⟨f, hf⟩ : ∃ f, l.length - i = f + 1 := ⟨l.length - i - 1, by omega⟩
  rw [hf]
  simp only [deepF]
  rw [if_pos h]
  simp only [fun d => deepF_more l o c f (l.length - (i + 1)) d (i + 1) (by omega) (by omega)]
  rfl
theorem deepFrom_end (l : List Int) (o c d : Int) {i : Nat} (h : ¬ i < l.length) : deepFrom l o c d i = none := by
  unfold deepFrom
  rw [show l.length - i = 0 by omega]
  rfl
def deepTo (l : List Int) (o c : Int) : Nat → Int → Option Nat
  | 0, _ => none
  | q + 1, d => if stepB (l.getD q 0) o c d = 0 then some q else deepTo l o c q (stepB (l.getD q 0) o c d)
theorem deepTo_eq (l : List Int) (o c : Int) : ∀ (i : Nat) (d : Int), deepB l o c i d = deepTo l o c (i + 1) d
  | 0, d => rfl
  | i + 1, d => by
    simp only [deepB, deepTo]
    rw [deepTo_eq l o c i]
    rfl
theorem pair_fwd {l : List Int} {i k : Nat} {ch : Int} (hb : bracketIn ((l.take (fin l i)).drop i) = some k) (hc : l.getD (i + k) 0 = ch) (ho : 0 ≤ opens ch) : pair l i = deepFrom l ch (if ch = 40 then 41 else ch + 2) 0 (i + k) := by
  unfold pair
  rw [hb]
  simp only [Option.bind_some, hc]
  rw [if_pos ho]
  exact deepF_more _ _ _ _ _ _ _ (by omega) (by omega)
theorem pair_bwd {l : List Int} {i k : Nat} {ch : Int} (hb : bracketIn ((l.take (fin l i)).drop i) = some k) (hc : l.getD (i + k) 0 = ch) (ho : ¬ 0 ≤ opens ch) : pair l i = deepTo l (if ch = 41 then 40 else ch - 2) ch (i + k + 1) 0 := by
  unfold pair
  rw [hb]
  simp only [Option.bind_some, hc]
  rw [if_neg ho]
  exact deepTo_eq _ _ _ _ _
theorem six_cases {ch : Int} (h : isBracket ch = true) : ch = 40 ∨ ch = 91 ∨ ch = 123 ∨ ch = 41 ∨ ch = 93 ∨ ch = 125 := by simpa [isBracket] using h
theorem six_yes {ch : Int} (h : isBracket ch = true) : 0 ≤ idxOf [40, 91, 123, 41, 93, 125] ch ∧ byteB ch = true := by
  simp only [isBracket, decide_eq_true_eq] at h
  rcases h with rfl | rfl | rfl | rfl | rfl | rfl <;> decide
theorem six_no {ch : Int} (h : isBracket ch = false) : idxOf [40, 91, 123, 41, 93, 125] ch = -1 := by
  simp only [isBracket, decide_eq_false_iff_not, not_or] at h
  obtain ⟨h1, h2, h3, h4, h5, h6⟩ := h
  simp [idxOf, Ne.symm h1, Ne.symm h2, Ne.symm h3, Ne.symm h4, Ne.symm h5, Ne.symm h6]
theorem bracketIn_step {l : List Int} {k : Nat} (hk : k < l.length) : bracketIn (l.drop k) = if isBracket (l.getD k 0) = true then some 0 else (bracketIn (l.drop (k + 1))).map (· + 1) := by
  rw [List.drop_eq_getElem_cons hk]
  simp [bracketIn, List.getD_eq_getElem?_getD, List.getElem?_eq_getElem hk]
theorem bracketIn_end {l : List Int} {k : Nat} (hk : l.length ≤ k) : bracketIn (l.drop k) = none := by
  rw [List.drop_eq_nil_of_le hk]; rfl

set_option maxHeartbeats 3000000 in
set_option maxRecDepth 100000 in
theorem pair_no (hW : Wk w g A c l i n op key A2 c2 a cn) (o : Option Gl) (h : ((pair l i).map incl) = o) (hil : ¬ i < l.length) :
    Calls Try.prog 75 #[.pointer (some ⟨g, 0, none⟩)] w fun e w' => e = endG o ∧ Below w.heap.size w w' := by
  have HO := Aside0.mk h
  clear h
  have HW0 := Aside0.mk hW
  have hg := Aside0.mk hW.lt
  have hcap := hW.sl.cap
  have hsok := Aside0.mk hW.sl.ok
  have ho := fin_le (begins_le hW.beg)
  have b1 : (0 : Int) ≤ (i : Int) := by omega
  have b2 : (i : Int) ≤ (fin l i : Int) := by omega
  have b3 : (fin l i : Int) ≤ (c : Int) := by omega
  have hfi : fin l i = i := by omega
  have hseg : (l.take (fin l i)).drop i = [] := by rw [hfi, List.drop_eq_nil_of_le (by rw [List.length_take]; omega)]
  obtain rfl : none = o := by rw [← HO.out, pair, hseg]; rfl
  clear hseg
  have b4 : fin l i - i = 0 := by omega
  have b5 : (i : Int) ≤ (c : Int) := by omega
  have b6 : (i : Int) ≤ (i : Int) := Int.le_refl _
  by_cases hci : c = i
  · subst hci
    have HS := Aside0.mk (St.begin_ hW)
    have hn1 := hW.n1
    have hn2 := hW.n2
    have hi := begins_le hW.beg
    have hsz := hW.sl.ok.size
    clear hW
    obtain ⟨f0, f1, f2, f3, f4, f5, f6, _, _, _, _, _⟩ := HS.out.wk
    go_enter Try.func75, Try.ntmps75
    go_wp2_with fail
    refine (brackets_calls).mono ?_
    rintro e wx ⟨rfl, rfl⟩
    go_wp2_with fail
    go_region_held3 (fun w' => w'.cell? ⟨g, 0, none⟩ = some (.slice A l.length c) ∧ w'.cell? ⟨g, 1, none⟩ = some (.int .i64 (c : Int))) (first | exact ⟨HS.out.wk.f0, HS.out.wk.f1⟩ | exact ⟨(HS.out.two (below_drew (Below.refl _ _))).wk.f0, (HS.out.two (below_drew (Below.refl _ _))).wk.f1⟩ | exact ⟨(Wk.laid HS.out hg.out HW0.out _ _ _).wk.f0, (Wk.laid HS.out hg.out HW0.out _ _ _).wk.f1⟩)
      (first | (go_at_call 47; refine (c_end (HS.out.two (by first | exact Below.refl _ _ | exact below_drew (Below.refl _ _) | exact pw_below_drewN (Below.refl _ _) _)).wk.sl hi).mono ?_; rintro e w11 ⟨rfl, hd⟩; have HT := Aside0.mk (HS.out.step (by first | exact Below.refl _ _ | exact below_drew (Below.refl _ _) | exact pw_below_drewN (Below.refl _ _) _) hd.below); clear hd HS; have HS := HT; clear HT))
    go_wp2_with fail
    go_loopw [35, 5, 6, 7] (fun v35 v5 v6 v7 wr => v35 = .int .i64 0 ∧ v5 = .int .i64 (-1) ∧ Aside0 (Below w.heap.size w wr)) (fun _ _ _ _ _ => 0)
    case atStart => exact ⟨rfl, rfl, ⟨HS.out.bel⟩⟩
    case round =>
      obtain ⟨rfl, rfl, HB⟩ := hrel
      go_wp2_with (first | (go_at_call 92; refine (must_ok _).mono ?_; rintro e wm ⟨rfl, rfl⟩) | (go_at_call 92; refine (must_no _).mono ?_; rintro e wm ⟨rfl, rfl⟩))
      exact ⟨rfl, rfl, HB.out⟩
  · skip
    have HS := Aside0.mk (St.begin_ hW)
    have hn1 := hW.n1
    have hn2 := hW.n2
    have hi := begins_le hW.beg
    have hsz := hW.sl.ok.size
    clear hW
    obtain ⟨f0, f1, f2, f3, f4, f5, f6, _, _, _, _, _⟩ := HS.out.wk
    go_enter Try.func75, Try.ntmps75
    go_wp2_with fail
    refine (brackets_calls).mono ?_
    rintro e wx ⟨rfl, rfl⟩
    go_wp2_with fail
    go_region_held3 (fun w' => w'.cell? ⟨g, 0, none⟩ = some (.slice A l.length c) ∧ w'.cell? ⟨g, 1, none⟩ = some (.int .i64 (i : Int))) (first | exact ⟨HS.out.wk.f0, HS.out.wk.f1⟩ | exact ⟨(HS.out.two (below_drew (Below.refl _ _))).wk.f0, (HS.out.two (below_drew (Below.refl _ _))).wk.f1⟩ | exact ⟨(Wk.laid HS.out hg.out HW0.out _ _ _).wk.f0, (Wk.laid HS.out hg.out HW0.out _ _ _).wk.f1⟩)
      (first | (go_at_call 47; refine (c_end (HS.out.two (by first | exact Below.refl _ _ | exact below_drew (Below.refl _ _) | exact pw_below_drewN (Below.refl _ _) _)).wk.sl hi).mono ?_; rintro e w12 ⟨rfl, hd⟩; have HT := Aside0.mk (HS.out.step (by first | exact Below.refl _ _ | exact below_drew (Below.refl _ _) | exact pw_below_drewN (Below.refl _ _) _) hd.below); clear hd HS; have HS := HT; clear HT))
    go_wp2_with fail
    go_loopw [35, 5, 6, 7] (fun v35 v5 v6 v7 wr => v35 = .int .i64 0 ∧ v5 = .int .i64 (-1) ∧ Aside0 (Below w.heap.size w wr)) (fun _ _ _ _ _ => 0)
    case atStart => exact ⟨rfl, rfl, ⟨HS.out.bel⟩⟩
    case round =>
      obtain ⟨rfl, rfl, HB⟩ := hrel
      go_wp2_with (first | (go_at_call 92; refine (must_ok _).mono ?_; rintro e wm ⟨rfl, rfl⟩) | (go_at_call 92; refine (must_no _).mono ?_; rintro e wm ⟨rfl, rfl⟩))
      exact ⟨rfl, rfl, HB.out⟩

set_option maxHeartbeats 3000000 in
set_option maxRecDepth 100000 in
theorem pair_yes (hW : Wk w g A c l i n op key A2 c2 a cn) (o : Option Gl) (h : ((pair l i).map incl) = o) (hil : i < l.length) :
    Calls Try.prog 75 #[.pointer (some ⟨g, 0, none⟩)] w fun e w' => e = endG o ∧ Below w.heap.size w w' := by
  have HO := Aside0.mk h
  clear h
  have HW0 := Aside0.mk hW
  have hg := Aside0.mk hW.lt
  have hcap := hW.sl.cap
  have hsok := Aside0.mk hW.sl.ok
  have ho := fin_le (begins_le hW.beg)
  have b1 : (0 : Int) ≤ (i : Int) := by omega
  have b2 : (i : Int) ≤ (fin l i : Int) := by omega
  have b3 : (fin l i : Int) ≤ (c : Int) := by omega
  have hci : ¬ c = i := by omega
  have HS := Aside0.mk (St.begin_ hW)
  have hn1 := hW.n1
  have hn2 := hW.n2
  have hi := begins_le hW.beg
  have hsz := hW.sl.ok.size
  clear hW
  obtain ⟨f0, f1, f2, f3, f4, f5, f6, _, _, _, _, _⟩ := HS.out.wk
  go_enter Try.func75, Try.ntmps75
  go_wp2_with fail
  refine (brackets_calls).mono ?_
  rintro e wx ⟨rfl, rfl⟩
  go_wp2_with fail
  go_region_held3 (fun w' => w'.cell? ⟨g, 0, none⟩ = some (.slice A l.length c) ∧ w'.cell? ⟨g, 1, none⟩ = some (.int .i64 (i : Int))) (first | exact ⟨HS.out.wk.f0, HS.out.wk.f1⟩ | exact ⟨(HS.out.two (below_drew (Below.refl _ _))).wk.f0, (HS.out.two (below_drew (Below.refl _ _))).wk.f1⟩ | exact ⟨(Wk.laid HS.out hg.out HW0.out _ _ _).wk.f0, (Wk.laid HS.out hg.out HW0.out _ _ _).wk.f1⟩)
    (first | (go_at_call 47; refine (c_end (HS.out.two (by first | exact Below.refl _ _ | exact below_drew (Below.refl _ _) | exact pw_below_drewN (Below.refl _ _) _)).wk.sl hi).mono ?_; rintro e w24 ⟨rfl, hd⟩; have HT := Aside0.mk (HS.out.step (by first | exact Below.refl _ _ | exact below_drew (Below.refl _ _) | exact pw_below_drewN (Below.refl _ _) _) hd.below); clear hd HS; have HS := HT; clear HT))
  obtain ⟨b0, o0, rfl, -⟩ := HS.out.wk.sl.at_ hil
  simp only [Option.map_some, Addr.add_lit]
  go_wp2_with fail
  have hcv := fun w s => run_bytes_of_string (P := Try.prog) w 9 23 5 s Try.underlying9 Try.underlying23 Try.underlying5
  go_loopw [35, 5, 6, 7] (fun v35 v5 v6 v7 wr => ∃ (k : Nat), v35 = .int .i64 k ∧ v5 = .int .i64 (-1) ∧ k ≤ fin l i - i ∧ Aside0 ((bracketIn (((l.take (fin l i)).drop i).drop k)).map (· + k) = bracketIn ((l.take (fin l i)).drop i)) ∧ Aside0 (St w wr w.heap.size (Wk wr g (some ⟨b0, o0, none⟩) c l i n op key A2 c2 a cn))) (fun v35 _ _ _ _ => fin l i - i - (intOf v35).toNat)
  case atStart => exact ⟨0, rfl, rfl, by omega, ⟨by simp⟩, HS⟩
  case round =>
    clear f0 f1 f2 f3 f4 f5 f6 HS
    obtain ⟨k, rfl, rfl, hk, HL, HS⟩ := hrel
    obtain ⟨f0, f1, f2, f3, f4, f5, f6, _, _, _, _, _⟩ := HS.out.wk
    by_cases h1 : k < fin l i - i
    · skip
      have t1 : decide ((k : Int) < ((fin l i - i : Nat) : Int)) = true := decide_eq_true (by omega)
      have t1' : decide (k < (fin l i - i : Nat)) = true := decide_eq_true (by omega)
      obtain ⟨b1, o1, e1, hcell⟩ := HS.out.wk.sl.at_ (j := i + k) (by omega)
      cases e1
      rw [← Nat.add_assoc] at hcell
      have hseg : ((l.take (fin l i)).drop i).length = fin l i - i := by rw [List.length_drop, List.length_take]; omega
      have hget : ((l.take (fin l i)).drop i).getD k 0 = l.getD (i + k) 0 := by
        simp only [List.getD_eq_getElem?_getD, List.getElem?_drop, List.getElem?_take]
        rw [if_pos (by omega)]
      have hst := Aside0.mk (bracketIn_step (l := (l.take (fin l i)).drop i) (k := k) (by omega))
      rw [hget] at hst
      clear hseg hget
      have hbb : byteB (l.getD (i + k) 0) = true := by simp only [byteB, Bool.and_eq_true, decide_eq_true_eq]; exact hsok.out.at_ (by omega)
      obtain ⟨ch, hch⟩ : ∃ ch, ch = l.getD (i + k) 0 := ⟨_, rfl⟩
      rw [← hch] at hcell hst hbb
      have HCH := Aside0.mk hch
      clear hch
      by_cases hbr : isBracket ch = true
      · have h6 := (six_yes hbr).1
        have h6' : decide (0 ≤ idxOf [40, 91, 123, 41, 93, 125] ch) = true := decide_eq_true h6
        have h6'' : decide (idxOf [40, 91, 123, 41, 93, 125] ch ≥ 0) = true := decide_eq_true h6
        go_wp2_with fail
        refine (c_six _ (grownCap_ge _ _ _ _) _ ch hbb).mono ?_
        rintro e w13 ⟨rfl, hd⟩
        have HT := Aside0.mk (HS.out.step (below_drew (below_alloc (Below.refl _ _) _)) hd.below)
        clear hd f0 f1 f2 f3 f4 f5 f6 HS
        have HS := HT
        clear HT
        obtain ⟨f0, f1, f2, f3, f4, f5, f6, _, _, _, _, _⟩ := HS.out.wk
        go_wp2_with fail
        refine (must_ok _).mono ?_
        rintro e wm ⟨rfl, rfl⟩
        have HB := Aside0.mk (HL.out.symm.trans (congrArg (Option.map (· + k)) (hst.out.trans (if_pos hbr))))
        clear HL hst h6 h6' h6'' t1 t1'
        rcases six_cases hbr with rfl | rfl | rfl | rfl | rfl | rfl
        · skip
          obtain ⟨b3, o3, e3, hcell⟩ := HS.out.wk.sl.at_ (j := i + k) (by omega)
          cases e3
          rw [← HCH.out] at hcell
          have q0 := fun o : Obj => (HS.out.two (below_alloc (Below.refl _ _) o)).wk.f0
          have q1 := fun o : Obj => (HS.out.two (below_alloc (Below.refl _ _) o)).wk.f1
          have q2 := fun o : Obj => pw_cell_below (below_alloc (Below.refl _ _) o) hcell
          have q0' := fun o : Obj => (HS.out.two (below_drew (below_alloc (Below.refl _ _) o))).wk.f0
          have q1' := fun o : Obj => (HS.out.two (below_drew (below_alloc (Below.refl _ _) o))).wk.f1
          have q2' := fun o : Obj => pw_cell_below (below_drew (below_alloc (Below.refl _ _) o)) hcell
          go_wp2_with fail
          refine (c_opens _ (grownCap_ge _ _ _ _) _ 40 (by decide) 0 rfl).mono ?_
          rintro e w14 ⟨rfl, hd⟩
          have HT := Aside0.mk (HS.out.step (below_drew (below_alloc (Below.refl _ _) _)) hd.below)
          clear hd f0 f1 f2 f3 f4 f5 f6 HS
          have HS := HT
          clear HT
          obtain ⟨f0, f1, f2, f3, f4, f5, f6, _, _, _, _, _⟩ := HS.out.wk
          go_wp2_with fail
          have HP : Aside0 (pair l i = deepFrom l 40 41 0 (i + k)) := ⟨pair_fwd (ch := 40) (k := k) (HB.out.trans (by simp)) HCH.out.symm (by decide)⟩
          go_loopw [8, 11] (fun v8 v11 wq => ∃ (q : Nat) (d : Int), v8 = .int .i64 q ∧ v11 = .int .i64 d ∧ q ≤ l.length ∧ -(q : Int) ≤ d ∧ d ≤ q ∧ Aside0 (deepFrom l 40 41 d q = deepFrom l 40 41 0 (i + k)) ∧ Aside0 (St w wq w.heap.size (Wk wq g (some ⟨b0, o0, none⟩) c l i n op key A2 c2 a cn))) (fun v8 _ _ => l.length - (intOf v8).toNat)
          case atStart => exact ⟨i + k, 0, by go_num, rfl, by omega, by omega, by omega, ⟨rfl⟩, HS⟩
          case round =>
            clear f0 f1 f2 f3 f4 f5 f6 HS hcell q0 q1 q2 q0' q1' q2'
            obtain ⟨q, d, rfl, rfl, hq, hd1, hd2, HL, HS⟩ := hrel
            obtain ⟨f0, f1, f2, f3, f4, f5, f6, _, _, _, _, _⟩ := HS.out.wk
            by_cases h1 : q < l.length
            · have HE := Aside0.mk (HL.out.symm.trans (deepFrom_eq l 40 41 d h1))
              clear HL
              have t1 : decide ((q : Int) < (l.length : Int)) = true := decide_eq_true (by omega)
              have t1' : decide (q < l.length) = true := decide_eq_true (by omega)
              obtain ⟨b6, o6, e6, hcell⟩ := HS.out.wk.sl.at_ h1
              cases e6
              obtain ⟨x, hx⟩ : ∃ x, x = l.getD q 0 := ⟨_, rfl⟩
              rw [← hx] at hcell HE
              clear hx
              by_cases hxo : x = 40
              · subst hxo
                have HE2 : Aside0 (deepFrom l 40 41 0 (i + k) = if d + 1 = 0 then some q else deepFrom l 40 41 (d + 1) (q + 1)) := ⟨by rw [HE.out, stepF, if_pos rfl]; try rfl⟩
                clear HE

                by_cases hz : d + 1 = 0
                · have z1 : (d + 1 == 0) = true := beq_iff_eq.2 hz
                  have z2 : decide (d + 1 = 0) = true := decide_eq_true hz
                  obtain ⟨r0, r1, r2, z⟩ := HS.out.res.cell
                  have z0 := z 0
                  have z1 := z 1
                  have z2 := z 2
                  clear z
                  go_wp2_with fail
                  exact goal_postG HS.out rfl rfl (by rw [← HO.out, HP.out, HE2.out, if_pos hz]; rfl)
                · have z1 : (d + 1 == 0) = false := beq_eq_false_iff_ne.2 hz
                  have z2 : decide (d + 1 = 0) = false := decide_eq_false hz
                  go_wp2_with fail
                  go_roundw
                  case rel => exact ⟨q + 1, d + 1, by go_num, by go_num, by omega, by omega, by omega, ⟨by rw [HE2.out, if_neg hz]⟩, HS⟩
                  case measure => simp [intOf]; omega
              · by_cases hxc : x = 41
                · subst hxc
                  have HE2 : Aside0 (deepFrom l 40 41 0 (i + k) = if d - 1 = 0 then some q else deepFrom l 40 41 (d - 1) (q + 1)) := ⟨by rw [HE.out, stepF, if_neg hxo, if_pos rfl]; try rfl⟩
                  clear HE

                  by_cases hz : d - 1 = 0
                  · have z1 : (d - 1 == 0) = true := beq_iff_eq.2 hz
                    have z2 : decide (d - 1 = 0) = true := decide_eq_true hz
                    obtain ⟨r0, r1, r2, z⟩ := HS.out.res.cell
                    have z0 := z 0
                    have z1 := z 1
                    have z2 := z 2
                    clear z
                    go_wp2_with fail
                    exact goal_postG HS.out rfl rfl (by rw [← HO.out, HP.out, HE2.out, if_pos hz]; rfl)
                  · have z1 : (d - 1 == 0) = false := beq_eq_false_iff_ne.2 hz
                    have z2 : decide (d - 1 = 0) = false := decide_eq_false hz
                    go_wp2_with fail
                    go_roundw
                    case rel => exact ⟨q + 1, d - 1, by go_num, by go_num, by omega, by omega, by omega, ⟨by rw [HE2.out, if_neg hz]⟩, HS⟩
                    case measure => simp [intOf]; omega
                · skip
                  have HE2 : Aside0 (deepFrom l 40 41 0 (i + k) = if d = 0 then some q else deepFrom l 40 41 (d) (q + 1)) := ⟨by rw [HE.out, stepF, if_neg hxo, if_neg hxc]; try rfl⟩
                  clear HE
                  have g1 : (x == 40) = false := beq_eq_false_iff_ne.2 hxo
                  have g2 : (x == 41) = false := beq_eq_false_iff_ne.2 hxc
                  have g1' : (x == (((⟨#[40, 91, 123]⟩ : ByteArray)[0]'(by decide)).toNat : Int)) = false := g1
                  have g2' : (x == (((⟨#[41, 93, 125]⟩ : ByteArray)[0]'(by decide)).toNat : Int)) = false := g2
                  by_cases hz : d = 0
                  · have z1 : (d == 0) = true := beq_iff_eq.2 hz
                    have z2 : decide (d = 0) = true := decide_eq_true hz
                    obtain ⟨r0, r1, r2, z⟩ := HS.out.res.cell
                    have z0 := z 0
                    have z1 := z 1
                    have z2 := z 2
                    clear z
                    go_wp2_with fail
                    exact goal_postG HS.out rfl rfl (by rw [← HO.out, HP.out, HE2.out, if_pos hz]; rfl)
                  · have z1 : (d == 0) = false := beq_eq_false_iff_ne.2 hz
                    have z2 : decide (d = 0) = false := decide_eq_false hz
                    go_wp2_with fail
                    go_roundw
                    case rel => exact ⟨q + 1, d, by go_num, by go_num, by omega, by omega, by omega, ⟨by rw [HE2.out, if_neg hz]⟩, HS⟩
                    case measure => simp [intOf]; omega
            · skip
              have t1 : decide ((q : Int) < (l.length : Int)) = false := decide_eq_false (by omega)
              have t1' : decide (q < l.length) = false := decide_eq_false (by omega)
              obtain rfl : none = o := by rw [← HO.out, HP.out, ← HL.out, deepFrom_end l _ _ _ h1]; rfl
              go_wp2_with fail
              exact ⟨rfl, rfl, HS.out.bel⟩
        · skip
          obtain ⟨b3, o3, e3, hcell⟩ := HS.out.wk.sl.at_ (j := i + k) (by omega)
          cases e3
          rw [← HCH.out] at hcell
          have q0 := fun o : Obj => (HS.out.two (below_alloc (Below.refl _ _) o)).wk.f0
          have q1 := fun o : Obj => (HS.out.two (below_alloc (Below.refl _ _) o)).wk.f1
          have q2 := fun o : Obj => pw_cell_below (below_alloc (Below.refl _ _) o) hcell
          have q0' := fun o : Obj => (HS.out.two (below_drew (below_alloc (Below.refl _ _) o))).wk.f0
          have q1' := fun o : Obj => (HS.out.two (below_drew (below_alloc (Below.refl _ _) o))).wk.f1
          have q2' := fun o : Obj => pw_cell_below (below_drew (below_alloc (Below.refl _ _) o)) hcell
          go_wp2_with fail
          refine (c_opens _ (grownCap_ge _ _ _ _) _ 91 (by decide) 1 rfl).mono ?_
          rintro e w15 ⟨rfl, hd⟩
          have HT := Aside0.mk (HS.out.step (below_drew (below_alloc (Below.refl _ _) _)) hd.below)
          clear hd f0 f1 f2 f3 f4 f5 f6 HS
          have HS := HT
          clear HT
          obtain ⟨f0, f1, f2, f3, f4, f5, f6, _, _, _, _, _⟩ := HS.out.wk
          go_wp2_with fail
          have HP : Aside0 (pair l i = deepFrom l 91 93 0 (i + k)) := ⟨pair_fwd (ch := 91) (k := k) (HB.out.trans (by simp)) HCH.out.symm (by decide)⟩
          go_loopw [8, 11] (fun v8 v11 wq => ∃ (q : Nat) (d : Int), v8 = .int .i64 q ∧ v11 = .int .i64 d ∧ q ≤ l.length ∧ -(q : Int) ≤ d ∧ d ≤ q ∧ Aside0 (deepFrom l 91 93 d q = deepFrom l 91 93 0 (i + k)) ∧ Aside0 (St w wq w.heap.size (Wk wq g (some ⟨b0, o0, none⟩) c l i n op key A2 c2 a cn))) (fun v8 _ _ => l.length - (intOf v8).toNat)
          case atStart => exact ⟨i + k, 0, by go_num, rfl, by omega, by omega, by omega, ⟨rfl⟩, HS⟩
          case round =>
            clear f0 f1 f2 f3 f4 f5 f6 HS hcell q0 q1 q2 q0' q1' q2'
            obtain ⟨q, d, rfl, rfl, hq, hd1, hd2, HL, HS⟩ := hrel
            obtain ⟨f0, f1, f2, f3, f4, f5, f6, _, _, _, _, _⟩ := HS.out.wk
            by_cases h1 : q < l.length
            · have HE := Aside0.mk (HL.out.symm.trans (deepFrom_eq l 91 93 d h1))
              clear HL
              have t1 : decide ((q : Int) < (l.length : Int)) = true := decide_eq_true (by omega)
              have t1' : decide (q < l.length) = true := decide_eq_true (by omega)
              obtain ⟨b6, o6, e6, hcell⟩ := HS.out.wk.sl.at_ h1
              cases e6
              obtain ⟨x, hx⟩ : ∃ x, x = l.getD q 0 := ⟨_, rfl⟩
              rw [← hx] at hcell HE
              clear hx
              by_cases hxo : x = 91
              · subst hxo
                have HE2 : Aside0 (deepFrom l 91 93 0 (i + k) = if d + 1 = 0 then some q else deepFrom l 91 93 (d + 1) (q + 1)) := ⟨by rw [HE.out, stepF, if_pos rfl]; try rfl⟩
                clear HE

                by_cases hz : d + 1 = 0
                · have z1 : (d + 1 == 0) = true := beq_iff_eq.2 hz
                  have z2 : decide (d + 1 = 0) = true := decide_eq_true hz
                  obtain ⟨r0, r1, r2, z⟩ := HS.out.res.cell
                  have z0 := z 0
                  have z1 := z 1
                  have z2 := z 2
                  clear z
                  go_wp2_with fail
                  exact goal_postG HS.out rfl rfl (by rw [← HO.out, HP.out, HE2.out, if_pos hz]; rfl)
                · have z1 : (d + 1 == 0) = false := beq_eq_false_iff_ne.2 hz
                  have z2 : decide (d + 1 = 0) = false := decide_eq_false hz
                  go_wp2_with fail
                  go_roundw
                  case rel => exact ⟨q + 1, d + 1, by go_num, by go_num, by omega, by omega, by omega, ⟨by rw [HE2.out, if_neg hz]⟩, HS⟩
                  case measure => simp [intOf]; omega
              · by_cases hxc : x = 93
                · subst hxc
                  have HE2 : Aside0 (deepFrom l 91 93 0 (i + k) = if d - 1 = 0 then some q else deepFrom l 91 93 (d - 1) (q + 1)) := ⟨by rw [HE.out, stepF, if_neg hxo, if_pos rfl]; try rfl⟩
                  clear HE

                  by_cases hz : d - 1 = 0
                  · have z1 : (d - 1 == 0) = true := beq_iff_eq.2 hz
                    have z2 : decide (d - 1 = 0) = true := decide_eq_true hz
                    obtain ⟨r0, r1, r2, z⟩ := HS.out.res.cell
                    have z0 := z 0
                    have z1 := z 1
                    have z2 := z 2
                    clear z
                    go_wp2_with fail
                    exact goal_postG HS.out rfl rfl (by rw [← HO.out, HP.out, HE2.out, if_pos hz]; rfl)
                  · have z1 : (d - 1 == 0) = false := beq_eq_false_iff_ne.2 hz
                    have z2 : decide (d - 1 = 0) = false := decide_eq_false hz
                    go_wp2_with fail
                    go_roundw
                    case rel => exact ⟨q + 1, d - 1, by go_num, by go_num, by omega, by omega, by omega, ⟨by rw [HE2.out, if_neg hz]⟩, HS⟩
                    case measure => simp [intOf]; omega
                · skip
                  have HE2 : Aside0 (deepFrom l 91 93 0 (i + k) = if d = 0 then some q else deepFrom l 91 93 (d) (q + 1)) := ⟨by rw [HE.out, stepF, if_neg hxo, if_neg hxc]; try rfl⟩
                  clear HE
                  have g1 : (x == 91) = false := beq_eq_false_iff_ne.2 hxo
                  have g2 : (x == 93) = false := beq_eq_false_iff_ne.2 hxc
                  have g1' : (x == (((⟨#[40, 91, 123]⟩ : ByteArray)[1]'(by decide)).toNat : Int)) = false := g1
                  have g2' : (x == (((⟨#[41, 93, 125]⟩ : ByteArray)[1]'(by decide)).toNat : Int)) = false := g2
                  by_cases hz : d = 0
                  · have z1 : (d == 0) = true := beq_iff_eq.2 hz
                    have z2 : decide (d = 0) = true := decide_eq_true hz
                    obtain ⟨r0, r1, r2, z⟩ := HS.out.res.cell
                    have z0 := z 0
                    have z1 := z 1
                    have z2 := z 2
                    clear z
                    go_wp2_with fail
                    exact goal_postG HS.out rfl rfl (by rw [← HO.out, HP.out, HE2.out, if_pos hz]; rfl)
                  · have z1 : (d == 0) = false := beq_eq_false_iff_ne.2 hz
                    have z2 : decide (d = 0) = false := decide_eq_false hz
                    go_wp2_with fail
                    go_roundw
                    case rel => exact ⟨q + 1, d, by go_num, by go_num, by omega, by omega, by omega, ⟨by rw [HE2.out, if_neg hz]⟩, HS⟩
                    case measure => simp [intOf]; omega
            · skip
              have t1 : decide ((q : Int) < (l.length : Int)) = false := decide_eq_false (by omega)
              have t1' : decide (q < l.length) = false := decide_eq_false (by omega)
              obtain rfl : none = o := by rw [← HO.out, HP.out, ← HL.out, deepFrom_end l _ _ _ h1]; rfl
              go_wp2_with fail
              exact ⟨rfl, rfl, HS.out.bel⟩
        · skip
          obtain ⟨b3, o3, e3, hcell⟩ := HS.out.wk.sl.at_ (j := i + k) (by omega)
          cases e3
          rw [← HCH.out] at hcell
          have q0 := fun o : Obj => (HS.out.two (below_alloc (Below.refl _ _) o)).wk.f0
          have q1 := fun o : Obj => (HS.out.two (below_alloc (Below.refl _ _) o)).wk.f1
          have q2 := fun o : Obj => pw_cell_below (below_alloc (Below.refl _ _) o) hcell
          have q0' := fun o : Obj => (HS.out.two (below_drew (below_alloc (Below.refl _ _) o))).wk.f0
          have q1' := fun o : Obj => (HS.out.two (below_drew (below_alloc (Below.refl _ _) o))).wk.f1
          have q2' := fun o : Obj => pw_cell_below (below_drew (below_alloc (Below.refl _ _) o)) hcell
          go_wp2_with fail
          refine (c_opens _ (grownCap_ge _ _ _ _) _ 123 (by decide) 2 rfl).mono ?_
          rintro e w16 ⟨rfl, hd⟩
          have HT := Aside0.mk (HS.out.step (below_drew (below_alloc (Below.refl _ _) _)) hd.below)
          clear hd f0 f1 f2 f3 f4 f5 f6 HS
          have HS := HT
          clear HT
          obtain ⟨f0, f1, f2, f3, f4, f5, f6, _, _, _, _, _⟩ := HS.out.wk
          go_wp2_with fail
          have HP : Aside0 (pair l i = deepFrom l 123 125 0 (i + k)) := ⟨pair_fwd (ch := 123) (k := k) (HB.out.trans (by simp)) HCH.out.symm (by decide)⟩
          go_loopw [8, 11] (fun v8 v11 wq => ∃ (q : Nat) (d : Int), v8 = .int .i64 q ∧ v11 = .int .i64 d ∧ q ≤ l.length ∧ -(q : Int) ≤ d ∧ d ≤ q ∧ Aside0 (deepFrom l 123 125 d q = deepFrom l 123 125 0 (i + k)) ∧ Aside0 (St w wq w.heap.size (Wk wq g (some ⟨b0, o0, none⟩) c l i n op key A2 c2 a cn))) (fun v8 _ _ => l.length - (intOf v8).toNat)
          case atStart => exact ⟨i + k, 0, by go_num, rfl, by omega, by omega, by omega, ⟨rfl⟩, HS⟩
          case round =>
            clear f0 f1 f2 f3 f4 f5 f6 HS hcell q0 q1 q2 q0' q1' q2'
            obtain ⟨q, d, rfl, rfl, hq, hd1, hd2, HL, HS⟩ := hrel
            obtain ⟨f0, f1, f2, f3, f4, f5, f6, _, _, _, _, _⟩ := HS.out.wk
            by_cases h1 : q < l.length
            · have HE := Aside0.mk (HL.out.symm.trans (deepFrom_eq l 123 125 d h1))
              clear HL
              have t1 : decide ((q : Int) < (l.length : Int)) = true := decide_eq_true (by omega)
              have t1' : decide (q < l.length) = true := decide_eq_true (by omega)
              obtain ⟨b6, o6, e6, hcell⟩ := HS.out.wk.sl.at_ h1
              cases e6
              obtain ⟨x, hx⟩ : ∃ x, x = l.getD q 0 := ⟨_, rfl⟩
              rw [← hx] at hcell HE
              clear hx
              by_cases hxo : x = 123
              · subst hxo
                have HE2 : Aside0 (deepFrom l 123 125 0 (i + k) = if d + 1 = 0 then some q else deepFrom l 123 125 (d + 1) (q + 1)) := ⟨by rw [HE.out, stepF, if_pos rfl]; try rfl⟩
                clear HE

                by_cases hz : d + 1 = 0
                · have z1 : (d + 1 == 0) = true := beq_iff_eq.2 hz
                  have z2 : decide (d + 1 = 0) = true := decide_eq_true hz
                  obtain ⟨r0, r1, r2, z⟩ := HS.out.res.cell
                  have z0 := z 0
                  have z1 := z 1
                  have z2 := z 2
                  clear z
                  go_wp2_with fail
                  exact goal_postG HS.out rfl rfl (by rw [← HO.out, HP.out, HE2.out, if_pos hz]; rfl)
                · have z1 : (d + 1 == 0) = false := beq_eq_false_iff_ne.2 hz
                  have z2 : decide (d + 1 = 0) = false := decide_eq_false hz
                  go_wp2_with fail
                  go_roundw
                  case rel => exact ⟨q + 1, d + 1, by go_num, by go_num, by omega, by omega, by omega, ⟨by rw [HE2.out, if_neg hz]⟩, HS⟩
                  case measure => simp [intOf]; omega
              · by_cases hxc : x = 125
                · subst hxc
                  have HE2 : Aside0 (deepFrom l 123 125 0 (i + k) = if d - 1 = 0 then some q else deepFrom l 123 125 (d - 1) (q + 1)) := ⟨by rw [HE.out, stepF, if_neg hxo, if_pos rfl]; try rfl⟩
                  clear HE

                  by_cases hz : d - 1 = 0
                  · have z1 : (d - 1 == 0) = true := beq_iff_eq.2 hz
                    have z2 : decide (d - 1 = 0) = true := decide_eq_true hz
                    obtain ⟨r0, r1, r2, z⟩ := HS.out.res.cell
                    have z0 := z 0
                    have z1 := z 1
                    have z2 := z 2
                    clear z
                    go_wp2_with fail
                    exact goal_postG HS.out rfl rfl (by rw [← HO.out, HP.out, HE2.out, if_pos hz]; rfl)
                  · have z1 : (d - 1 == 0) = false := beq_eq_false_iff_ne.2 hz
                    have z2 : decide (d - 1 = 0) = false := decide_eq_false hz
                    go_wp2_with fail
                    go_roundw
                    case rel => exact ⟨q + 1, d - 1, by go_num, by go_num, by omega, by omega, by omega, ⟨by rw [HE2.out, if_neg hz]⟩, HS⟩
                    case measure => simp [intOf]; omega
                · skip
                  have HE2 : Aside0 (deepFrom l 123 125 0 (i + k) = if d = 0 then some q else deepFrom l 123 125 (d) (q + 1)) := ⟨by rw [HE.out, stepF, if_neg hxo, if_neg hxc]; try rfl⟩
                  clear HE
                  have g1 : (x == 123) = false := beq_eq_false_iff_ne.2 hxo
                  have g2 : (x == 125) = false := beq_eq_false_iff_ne.2 hxc
                  have g1' : (x == (((⟨#[40, 91, 123]⟩ : ByteArray)[2]'(by decide)).toNat : Int)) = false := g1
                  have g2' : (x == (((⟨#[41, 93, 125]⟩ : ByteArray)[2]'(by decide)).toNat : Int)) = false := g2
                  by_cases hz : d = 0
                  · have z1 : (d == 0) = true := beq_iff_eq.2 hz
                    have z2 : decide (d = 0) = true := decide_eq_true hz
                    obtain ⟨r0, r1, r2, z⟩ := HS.out.res.cell
                    have z0 := z 0
                    have z1 := z 1
                    have z2 := z 2
                    clear z
                    go_wp2_with fail
                    exact goal_postG HS.out rfl rfl (by rw [← HO.out, HP.out, HE2.out, if_pos hz]; rfl)
                  · have z1 : (d == 0) = false := beq_eq_false_iff_ne.2 hz
                    have z2 : decide (d = 0) = false := decide_eq_false hz
                    go_wp2_with fail
                    go_roundw
                    case rel => exact ⟨q + 1, d, by go_num, by go_num, by omega, by omega, by omega, ⟨by rw [HE2.out, if_neg hz]⟩, HS⟩
                    case measure => simp [intOf]; omega
            · skip
              have t1 : decide ((q : Int) < (l.length : Int)) = false := decide_eq_false (by omega)
              have t1' : decide (q < l.length) = false := decide_eq_false (by omega)
              obtain rfl : none = o := by rw [← HO.out, HP.out, ← HL.out, deepFrom_end l _ _ _ h1]; rfl
              go_wp2_with fail
              exact ⟨rfl, rfl, HS.out.bel⟩
        · skip
          obtain ⟨b3, o3, e3, hcell⟩ := HS.out.wk.sl.at_ (j := i + k) (by omega)
          cases e3
          rw [← HCH.out] at hcell
          have q0 := fun o : Obj => (HS.out.two (below_alloc (Below.refl _ _) o)).wk.f0
          have q1 := fun o : Obj => (HS.out.two (below_alloc (Below.refl _ _) o)).wk.f1
          have q2 := fun o : Obj => pw_cell_below (below_alloc (Below.refl _ _) o) hcell
          have q0' := fun o : Obj => (HS.out.two (below_drew (below_alloc (Below.refl _ _) o))).wk.f0
          have q1' := fun o : Obj => (HS.out.two (below_drew (below_alloc (Below.refl _ _) o))).wk.f1
          have q2' := fun o : Obj => pw_cell_below (below_drew (below_alloc (Below.refl _ _) o)) hcell
          go_wp2_with fail
          refine (c_opens _ (grownCap_ge _ _ _ _) _ 41 (by decide) (-1) rfl).mono ?_
          rintro e w17 ⟨rfl, hd⟩
          have HT := Aside0.mk (HS.out.step (below_drew (below_alloc (Below.refl _ _) _)) hd.below)
          clear hd f0 f1 f2 f3 f4 f5 f6 HS
          have HS := HT
          clear HT
          obtain ⟨f0, f1, f2, f3, f4, f5, f6, _, _, _, _, _⟩ := HS.out.wk
          clear hcell
          obtain ⟨b4, o4, e4, hcell⟩ := HS.out.wk.sl.at_ (j := i + k) (by omega)
          cases e4
          rw [← HCH.out] at hcell
          have q0 := fun o : Obj => (HS.out.two (below_alloc (Below.refl _ _) o)).wk.f0
          have q1 := fun o : Obj => (HS.out.two (below_alloc (Below.refl _ _) o)).wk.f1
          have q2 := fun o : Obj => pw_cell_below (below_alloc (Below.refl _ _) o) hcell
          have q0' := fun o : Obj => (HS.out.two (below_drew (below_alloc (Below.refl _ _) o))).wk.f0
          have q1' := fun o : Obj => (HS.out.two (below_drew (below_alloc (Below.refl _ _) o))).wk.f1
          have q2' := fun o : Obj => pw_cell_below (below_drew (below_alloc (Below.refl _ _) o)) hcell
          go_wp2_with fail
          refine (c_closes _ (grownCap_ge _ _ _ _) _ 41 (by decide) 0 rfl).mono ?_
          rintro e w18 ⟨rfl, hd⟩
          have HT := Aside0.mk (HS.out.step (below_drew (below_alloc (Below.refl _ _) _)) hd.below)
          clear hd f0 f1 f2 f3 f4 f5 f6 HS
          have HS := HT
          clear HT
          obtain ⟨f0, f1, f2, f3, f4, f5, f6, _, _, _, _, _⟩ := HS.out.wk
          go_wp2_with fail
          have HP : Aside0 (pair l i = deepTo l 40 41 (i + k + 1) 0) := ⟨pair_bwd (ch := 41) (k := k) (HB.out.trans (by simp)) HCH.out.symm (by decide)⟩
          go_loopw [8, 11] (fun v8 v11 wq => ∃ (q : Nat) (d : Int), v8 = .int .i64 ((q : Int) - 1) ∧ v11 = .int .i64 d ∧ q ≤ l.length ∧ -((l.length : Int) - q) ≤ d ∧ d ≤ (l.length : Int) - q ∧ Aside0 (deepTo l 40 41 q d = deepTo l 40 41 (i + k + 1) 0) ∧ Aside0 (St w wq w.heap.size (Wk wq g (some ⟨b0, o0, none⟩) c l i n op key A2 c2 a cn))) (fun v8 _ _ => (intOf v8 + 1).toNat)
          case atStart => exact ⟨i + k + 1, 0, by go_num, rfl, by omega, by omega, by omega, ⟨rfl⟩, HS⟩
          case round =>
            clear f0 f1 f2 f3 f4 f5 f6 HS hcell q0 q1 q2 q0' q1' q2'
            obtain ⟨q, d, rfl, rfl, hq, hd1, hd2, HL, HS⟩ := hrel
            obtain ⟨f0, f1, f2, f3, f4, f5, f6, _, _, _, _, _⟩ := HS.out.wk
            rcases q with _ | q
            · obtain rfl : none = o := by rw [← HO.out, HP.out, ← HL.out]; rfl
              rw [show ((0 : Nat) : Int) - 1 = -1 from rfl]
              go_wp2_with fail
              exact ⟨rfl, rfl, HS.out.bel⟩
            · have HE := Aside0.mk (HL.out.symm.trans (show deepTo l 40 41 (q + 1) d = if stepB (l.getD q 0) 40 41 d = 0 then some q else deepTo l 40 41 q (stepB (l.getD q 0) 40 41 d) from rfl))
              clear HL
              have h1 : q < l.length := by omega
              have e1 : ((q + 1 : Nat) : Int) - 1 = (q : Int) := by omega
              rw [e1]
              clear e1
              have t1 : decide ((q : Int) < (l.length : Int)) = true := decide_eq_true (by omega)
              have t1' : decide (q < l.length) = true := decide_eq_true (by omega)
              obtain ⟨b6, o6, e6, hcell⟩ := HS.out.wk.sl.at_ h1
              cases e6
              obtain ⟨x, hx⟩ : ∃ x, x = l.getD q 0 := ⟨_, rfl⟩
              rw [← hx] at hcell HE
              clear hx
              by_cases hxo : x = 40
              · subst hxo
                have HE2 : Aside0 (deepTo l 40 41 (i + k + 1) 0 = if d + -1 = 0 then some q else deepTo l 40 41 q (d + -1)) := ⟨by rw [HE.out, stepB, if_pos rfl]; try rfl⟩
                clear HE

                by_cases hz : d + -1 = 0
                · have z1 : (d + -1 == 0) = true := beq_iff_eq.2 hz
                  have z2 : decide (d + -1 = 0) = true := decide_eq_true hz
                  obtain ⟨r0, r1, r2, z⟩ := HS.out.res.cell
                  have z0 := z 0
                  have z1 := z 1
                  have z2 := z 2
                  clear z
                  go_wp2_with fail
                  exact goal_postG HS.out rfl rfl (by rw [← HO.out, HP.out, HE2.out, if_pos hz]; rfl)
                · have z1 : (d + -1 == 0) = false := beq_eq_false_iff_ne.2 hz
                  have z2 : decide (d + -1 = 0) = false := decide_eq_false hz
                  go_wp2_with fail
                  go_roundw
                  case rel => exact ⟨q, d + -1, by go_num, by go_num, by omega, by omega, by omega, ⟨by rw [HE2.out, if_neg hz]⟩, HS⟩
                  case measure => simp [intOf]; omega
              · by_cases hxc : x = 41
                · subst hxc
                  have HE2 : Aside0 (deepTo l 40 41 (i + k + 1) 0 = if d - -1 = 0 then some q else deepTo l 40 41 q (d - -1)) := ⟨by rw [HE.out, stepB, if_neg hxo, if_pos rfl]; try rfl⟩
                  clear HE

                  by_cases hz : d - -1 = 0
                  · have z1 : (d - -1 == 0) = true := beq_iff_eq.2 hz
                    have z2 : decide (d - -1 = 0) = true := decide_eq_true hz
                    obtain ⟨r0, r1, r2, z⟩ := HS.out.res.cell
                    have z0 := z 0
                    have z1 := z 1
                    have z2 := z 2
                    clear z
                    go_wp2_with fail
                    exact goal_postG HS.out rfl rfl (by rw [← HO.out, HP.out, HE2.out, if_pos hz]; rfl)
                  · have z1 : (d - -1 == 0) = false := beq_eq_false_iff_ne.2 hz
                    have z2 : decide (d - -1 = 0) = false := decide_eq_false hz
                    go_wp2_with fail
                    go_roundw
                    case rel => exact ⟨q, d - -1, by go_num, by go_num, by omega, by omega, by omega, ⟨by rw [HE2.out, if_neg hz]⟩, HS⟩
                    case measure => simp [intOf]; omega
                · skip
                  have HE2 : Aside0 (deepTo l 40 41 (i + k + 1) 0 = if d = 0 then some q else deepTo l 40 41 q (d)) := ⟨by rw [HE.out, stepB, if_neg hxo, if_neg hxc]; try rfl⟩
                  clear HE
                  have g1 : (x == 40) = false := beq_eq_false_iff_ne.2 hxo
                  have g2 : (x == 41) = false := beq_eq_false_iff_ne.2 hxc
                  have g1' : (x == (((⟨#[40, 91, 123]⟩ : ByteArray)[0]'(by decide)).toNat : Int)) = false := g1
                  have g2' : (x == (((⟨#[41, 93, 125]⟩ : ByteArray)[0]'(by decide)).toNat : Int)) = false := g2
                  by_cases hz : d = 0
                  · have z1 : (d == 0) = true := beq_iff_eq.2 hz
                    have z2 : decide (d = 0) = true := decide_eq_true hz
                    obtain ⟨r0, r1, r2, z⟩ := HS.out.res.cell
                    have z0 := z 0
                    have z1 := z 1
                    have z2 := z 2
                    clear z
                    go_wp2_with fail
                    exact goal_postG HS.out rfl rfl (by rw [← HO.out, HP.out, HE2.out, if_pos hz]; rfl)
                  · have z1 : (d == 0) = false := beq_eq_false_iff_ne.2 hz
                    have z2 : decide (d = 0) = false := decide_eq_false hz
                    go_wp2_with fail
                    go_roundw
                    case rel => exact ⟨q, d, by go_num, by go_num, by omega, by omega, by omega, ⟨by rw [HE2.out, if_neg hz]⟩, HS⟩
                    case measure => simp [intOf]; omega
        · skip
          obtain ⟨b3, o3, e3, hcell⟩ := HS.out.wk.sl.at_ (j := i + k) (by omega)
          cases e3
          rw [← HCH.out] at hcell
          have q0 := fun o : Obj => (HS.out.two (below_alloc (Below.refl _ _) o)).wk.f0
          have q1 := fun o : Obj => (HS.out.two (below_alloc (Below.refl _ _) o)).wk.f1
          have q2 := fun o : Obj => pw_cell_below (below_alloc (Below.refl _ _) o) hcell
          have q0' := fun o : Obj => (HS.out.two (below_drew (below_alloc (Below.refl _ _) o))).wk.f0
          have q1' := fun o : Obj => (HS.out.two (below_drew (below_alloc (Below.refl _ _) o))).wk.f1
          have q2' := fun o : Obj => pw_cell_below (below_drew (below_alloc (Below.refl _ _) o)) hcell
          go_wp2_with fail
          refine (c_opens _ (grownCap_ge _ _ _ _) _ 93 (by decide) (-1) rfl).mono ?_
          rintro e w19 ⟨rfl, hd⟩
          have HT := Aside0.mk (HS.out.step (below_drew (below_alloc (Below.refl _ _) _)) hd.below)
          clear hd f0 f1 f2 f3 f4 f5 f6 HS
          have HS := HT
          clear HT
          obtain ⟨f0, f1, f2, f3, f4, f5, f6, _, _, _, _, _⟩ := HS.out.wk
          clear hcell
          obtain ⟨b4, o4, e4, hcell⟩ := HS.out.wk.sl.at_ (j := i + k) (by omega)
          cases e4
          rw [← HCH.out] at hcell
          have q0 := fun o : Obj => (HS.out.two (below_alloc (Below.refl _ _) o)).wk.f0
          have q1 := fun o : Obj => (HS.out.two (below_alloc (Below.refl _ _) o)).wk.f1
          have q2 := fun o : Obj => pw_cell_below (below_alloc (Below.refl _ _) o) hcell
          have q0' := fun o : Obj => (HS.out.two (below_drew (below_alloc (Below.refl _ _) o))).wk.f0
          have q1' := fun o : Obj => (HS.out.two (below_drew (below_alloc (Below.refl _ _) o))).wk.f1
          have q2' := fun o : Obj => pw_cell_below (below_drew (below_alloc (Below.refl _ _) o)) hcell
          go_wp2_with fail
          refine (c_closes _ (grownCap_ge _ _ _ _) _ 93 (by decide) 1 rfl).mono ?_
          rintro e w20 ⟨rfl, hd⟩
          have HT := Aside0.mk (HS.out.step (below_drew (below_alloc (Below.refl _ _) _)) hd.below)
          clear hd f0 f1 f2 f3 f4 f5 f6 HS
          have HS := HT
          clear HT
          obtain ⟨f0, f1, f2, f3, f4, f5, f6, _, _, _, _, _⟩ := HS.out.wk
          go_wp2_with fail
          have HP : Aside0 (pair l i = deepTo l 91 93 (i + k + 1) 0) := ⟨pair_bwd (ch := 93) (k := k) (HB.out.trans (by simp)) HCH.out.symm (by decide)⟩
          go_loopw [8, 11] (fun v8 v11 wq => ∃ (q : Nat) (d : Int), v8 = .int .i64 ((q : Int) - 1) ∧ v11 = .int .i64 d ∧ q ≤ l.length ∧ -((l.length : Int) - q) ≤ d ∧ d ≤ (l.length : Int) - q ∧ Aside0 (deepTo l 91 93 q d = deepTo l 91 93 (i + k + 1) 0) ∧ Aside0 (St w wq w.heap.size (Wk wq g (some ⟨b0, o0, none⟩) c l i n op key A2 c2 a cn))) (fun v8 _ _ => (intOf v8 + 1).toNat)
          case atStart => exact ⟨i + k + 1, 0, by go_num, rfl, by omega, by omega, by omega, ⟨rfl⟩, HS⟩
          case round =>
            clear f0 f1 f2 f3 f4 f5 f6 HS hcell q0 q1 q2 q0' q1' q2'
            obtain ⟨q, d, rfl, rfl, hq, hd1, hd2, HL, HS⟩ := hrel
            obtain ⟨f0, f1, f2, f3, f4, f5, f6, _, _, _, _, _⟩ := HS.out.wk
            rcases q with _ | q
            · obtain rfl : none = o := by rw [← HO.out, HP.out, ← HL.out]; rfl
              rw [show ((0 : Nat) : Int) - 1 = -1 from rfl]
              go_wp2_with fail
              exact ⟨rfl, rfl, HS.out.bel⟩
            · have HE := Aside0.mk (HL.out.symm.trans (show deepTo l 91 93 (q + 1) d = if stepB (l.getD q 0) 91 93 d = 0 then some q else deepTo l 91 93 q (stepB (l.getD q 0) 91 93 d) from rfl))
              clear HL
              have h1 : q < l.length := by omega
              have e1 : ((q + 1 : Nat) : Int) - 1 = (q : Int) := by omega
              rw [e1]
              clear e1
              have t1 : decide ((q : Int) < (l.length : Int)) = true := decide_eq_true (by omega)
              have t1' : decide (q < l.length) = true := decide_eq_true (by omega)
              obtain ⟨b6, o6, e6, hcell⟩ := HS.out.wk.sl.at_ h1
              cases e6
              obtain ⟨x, hx⟩ : ∃ x, x = l.getD q 0 := ⟨_, rfl⟩
              rw [← hx] at hcell HE
              clear hx
              by_cases hxo : x = 91
              · subst hxo
                have HE2 : Aside0 (deepTo l 91 93 (i + k + 1) 0 = if d + -1 = 0 then some q else deepTo l 91 93 q (d + -1)) := ⟨by rw [HE.out, stepB, if_pos rfl]; try rfl⟩
                clear HE

                by_cases hz : d + -1 = 0
                · have z1 : (d + -1 == 0) = true := beq_iff_eq.2 hz
                  have z2 : decide (d + -1 = 0) = true := decide_eq_true hz
                  obtain ⟨r0, r1, r2, z⟩ := HS.out.res.cell
                  have z0 := z 0
                  have z1 := z 1
                  have z2 := z 2
                  clear z
                  go_wp2_with fail
                  exact goal_postG HS.out rfl rfl (by rw [← HO.out, HP.out, HE2.out, if_pos hz]; rfl)
                · have z1 : (d + -1 == 0) = false := beq_eq_false_iff_ne.2 hz
                  have z2 : decide (d + -1 = 0) = false := decide_eq_false hz
                  go_wp2_with fail
                  go_roundw
                  case rel => exact ⟨q, d + -1, by go_num, by go_num, by omega, by omega, by omega, ⟨by rw [HE2.out, if_neg hz]⟩, HS⟩
                  case measure => simp [intOf]; omega
              · by_cases hxc : x = 93
                · subst hxc
                  have HE2 : Aside0 (deepTo l 91 93 (i + k + 1) 0 = if d - -1 = 0 then some q else deepTo l 91 93 q (d - -1)) := ⟨by rw [HE.out, stepB, if_neg hxo, if_pos rfl]; try rfl⟩
                  clear HE

                  by_cases hz : d - -1 = 0
                  · have z1 : (d - -1 == 0) = true := beq_iff_eq.2 hz
                    have z2 : decide (d - -1 = 0) = true := decide_eq_true hz
                    obtain ⟨r0, r1, r2, z⟩ := HS.out.res.cell
                    have z0 := z 0
                    have z1 := z 1
                    have z2 := z 2
                    clear z
                    go_wp2_with fail
                    exact goal_postG HS.out rfl rfl (by rw [← HO.out, HP.out, HE2.out, if_pos hz]; rfl)
                  · have z1 : (d - -1 == 0) = false := beq_eq_false_iff_ne.2 hz
                    have z2 : decide (d - -1 = 0) = false := decide_eq_false hz
                    go_wp2_with fail
                    go_roundw
                    case rel => exact ⟨q, d - -1, by go_num, by go_num, by omega, by omega, by omega, ⟨by rw [HE2.out, if_neg hz]⟩, HS⟩
                    case measure => simp [intOf]; omega
                · skip
                  have HE2 : Aside0 (deepTo l 91 93 (i + k + 1) 0 = if d = 0 then some q else deepTo l 91 93 q (d)) := ⟨by rw [HE.out, stepB, if_neg hxo, if_neg hxc]; try rfl⟩
                  clear HE
                  have g1 : (x == 91) = false := beq_eq_false_iff_ne.2 hxo
                  have g2 : (x == 93) = false := beq_eq_false_iff_ne.2 hxc
                  have g1' : (x == (((⟨#[40, 91, 123]⟩ : ByteArray)[1]'(by decide)).toNat : Int)) = false := g1
                  have g2' : (x == (((⟨#[41, 93, 125]⟩ : ByteArray)[1]'(by decide)).toNat : Int)) = false := g2
                  by_cases hz : d = 0
                  · have z1 : (d == 0) = true := beq_iff_eq.2 hz
                    have z2 : decide (d = 0) = true := decide_eq_true hz
                    obtain ⟨r0, r1, r2, z⟩ := HS.out.res.cell
                    have z0 := z 0
                    have z1 := z 1
                    have z2 := z 2
                    clear z
                    go_wp2_with fail
                    exact goal_postG HS.out rfl rfl (by rw [← HO.out, HP.out, HE2.out, if_pos hz]; rfl)
                  · have z1 : (d == 0) = false := beq_eq_false_iff_ne.2 hz
                    have z2 : decide (d = 0) = false := decide_eq_false hz
                    go_wp2_with fail
                    go_roundw
                    case rel => exact ⟨q, d, by go_num, by go_num, by omega, by omega, by omega, ⟨by rw [HE2.out, if_neg hz]⟩, HS⟩
                    case measure => simp [intOf]; omega
        · skip
          obtain ⟨b3, o3, e3, hcell⟩ := HS.out.wk.sl.at_ (j := i + k) (by omega)
          cases e3
          rw [← HCH.out] at hcell
          have q0 := fun o : Obj => (HS.out.two (below_alloc (Below.refl _ _) o)).wk.f0
          have q1 := fun o : Obj => (HS.out.two (below_alloc (Below.refl _ _) o)).wk.f1
          have q2 := fun o : Obj => pw_cell_below (below_alloc (Below.refl _ _) o) hcell
          have q0' := fun o : Obj => (HS.out.two (below_drew (below_alloc (Below.refl _ _) o))).wk.f0
          have q1' := fun o : Obj => (HS.out.two (below_drew (below_alloc (Below.refl _ _) o))).wk.f1
          have q2' := fun o : Obj => pw_cell_below (below_drew (below_alloc (Below.refl _ _) o)) hcell
          go_wp2_with fail
          refine (c_opens _ (grownCap_ge _ _ _ _) _ 125 (by decide) (-1) rfl).mono ?_
          rintro e w21 ⟨rfl, hd⟩
          have HT := Aside0.mk (HS.out.step (below_drew (below_alloc (Below.refl _ _) _)) hd.below)
          clear hd f0 f1 f2 f3 f4 f5 f6 HS
          have HS := HT
          clear HT
          obtain ⟨f0, f1, f2, f3, f4, f5, f6, _, _, _, _, _⟩ := HS.out.wk
          clear hcell
          obtain ⟨b4, o4, e4, hcell⟩ := HS.out.wk.sl.at_ (j := i + k) (by omega)
          cases e4
          rw [← HCH.out] at hcell
          have q0 := fun o : Obj => (HS.out.two (below_alloc (Below.refl _ _) o)).wk.f0
          have q1 := fun o : Obj => (HS.out.two (below_alloc (Below.refl _ _) o)).wk.f1
          have q2 := fun o : Obj => pw_cell_below (below_alloc (Below.refl _ _) o) hcell
          have q0' := fun o : Obj => (HS.out.two (below_drew (below_alloc (Below.refl _ _) o))).wk.f0
          have q1' := fun o : Obj => (HS.out.two (below_drew (below_alloc (Below.refl _ _) o))).wk.f1
          have q2' := fun o : Obj => pw_cell_below (below_drew (below_alloc (Below.refl _ _) o)) hcell
          go_wp2_with fail
          refine (c_closes _ (grownCap_ge _ _ _ _) _ 125 (by decide) 2 rfl).mono ?_
          rintro e w22 ⟨rfl, hd⟩
          have HT := Aside0.mk (HS.out.step (below_drew (below_alloc (Below.refl _ _) _)) hd.below)
          clear hd f0 f1 f2 f3 f4 f5 f6 HS
          have HS := HT
          clear HT
          obtain ⟨f0, f1, f2, f3, f4, f5, f6, _, _, _, _, _⟩ := HS.out.wk
          go_wp2_with fail
          have HP : Aside0 (pair l i = deepTo l 123 125 (i + k + 1) 0) := ⟨pair_bwd (ch := 125) (k := k) (HB.out.trans (by simp)) HCH.out.symm (by decide)⟩
          go_loopw [8, 11] (fun v8 v11 wq => ∃ (q : Nat) (d : Int), v8 = .int .i64 ((q : Int) - 1) ∧ v11 = .int .i64 d ∧ q ≤ l.length ∧ -((l.length : Int) - q) ≤ d ∧ d ≤ (l.length : Int) - q ∧ Aside0 (deepTo l 123 125 q d = deepTo l 123 125 (i + k + 1) 0) ∧ Aside0 (St w wq w.heap.size (Wk wq g (some ⟨b0, o0, none⟩) c l i n op key A2 c2 a cn))) (fun v8 _ _ => (intOf v8 + 1).toNat)
          case atStart => exact ⟨i + k + 1, 0, by go_num, rfl, by omega, by omega, by omega, ⟨rfl⟩, HS⟩
          case round =>
            clear f0 f1 f2 f3 f4 f5 f6 HS hcell q0 q1 q2 q0' q1' q2'
            obtain ⟨q, d, rfl, rfl, hq, hd1, hd2, HL, HS⟩ := hrel
            obtain ⟨f0, f1, f2, f3, f4, f5, f6, _, _, _, _, _⟩ := HS.out.wk
            rcases q with _ | q
            · obtain rfl : none = o := by rw [← HO.out, HP.out, ← HL.out]; rfl
              rw [show ((0 : Nat) : Int) - 1 = -1 from rfl]
              go_wp2_with fail
              exact ⟨rfl, rfl, HS.out.bel⟩
            · have HE := Aside0.mk (HL.out.symm.trans (show deepTo l 123 125 (q + 1) d = if stepB (l.getD q 0) 123 125 d = 0 then some q else deepTo l 123 125 q (stepB (l.getD q 0) 123 125 d) from rfl))
              clear HL
              have h1 : q < l.length := by omega
              have e1 : ((q + 1 : Nat) : Int) - 1 = (q : Int) := by omega
              rw [e1]
              clear e1
              have t1 : decide ((q : Int) < (l.length : Int)) = true := decide_eq_true (by omega)
              have t1' : decide (q < l.length) = true := decide_eq_true (by omega)
              obtain ⟨b6, o6, e6, hcell⟩ := HS.out.wk.sl.at_ h1
              cases e6
              obtain ⟨x, hx⟩ : ∃ x, x = l.getD q 0 := ⟨_, rfl⟩
              rw [← hx] at hcell HE
              clear hx
              by_cases hxo : x = 123
              · subst hxo
                have HE2 : Aside0 (deepTo l 123 125 (i + k + 1) 0 = if d + -1 = 0 then some q else deepTo l 123 125 q (d + -1)) := ⟨by rw [HE.out, stepB, if_pos rfl]; try rfl⟩
                clear HE

                by_cases hz : d + -1 = 0
                · have z1 : (d + -1 == 0) = true := beq_iff_eq.2 hz
                  have z2 : decide (d + -1 = 0) = true := decide_eq_true hz
                  obtain ⟨r0, r1, r2, z⟩ := HS.out.res.cell
                  have z0 := z 0
                  have z1 := z 1
                  have z2 := z 2
                  clear z
                  go_wp2_with fail
                  exact goal_postG HS.out rfl rfl (by rw [← HO.out, HP.out, HE2.out, if_pos hz]; rfl)
                · have z1 : (d + -1 == 0) = false := beq_eq_false_iff_ne.2 hz
                  have z2 : decide (d + -1 = 0) = false := decide_eq_false hz
                  go_wp2_with fail
                  go_roundw
                  case rel => exact ⟨q, d + -1, by go_num, by go_num, by omega, by omega, by omega, ⟨by rw [HE2.out, if_neg hz]⟩, HS⟩
                  case measure => simp [intOf]; omega
              · by_cases hxc : x = 125
                · subst hxc
                  have HE2 : Aside0 (deepTo l 123 125 (i + k + 1) 0 = if d - -1 = 0 then some q else deepTo l 123 125 q (d - -1)) := ⟨by rw [HE.out, stepB, if_neg hxo, if_pos rfl]; try rfl⟩
                  clear HE

                  by_cases hz : d - -1 = 0
                  · have z1 : (d - -1 == 0) = true := beq_iff_eq.2 hz
                    have z2 : decide (d - -1 = 0) = true := decide_eq_true hz
                    obtain ⟨r0, r1, r2, z⟩ := HS.out.res.cell
                    have z0 := z 0
                    have z1 := z 1
                    have z2 := z 2
                    clear z
                    go_wp2_with fail
                    exact goal_postG HS.out rfl rfl (by rw [← HO.out, HP.out, HE2.out, if_pos hz]; rfl)
                  · have z1 : (d - -1 == 0) = false := beq_eq_false_iff_ne.2 hz
                    have z2 : decide (d - -1 = 0) = false := decide_eq_false hz
                    go_wp2_with fail
                    go_roundw
                    case rel => exact ⟨q, d - -1, by go_num, by go_num, by omega, by omega, by omega, ⟨by rw [HE2.out, if_neg hz]⟩, HS⟩
                    case measure => simp [intOf]; omega
                · skip
                  have HE2 : Aside0 (deepTo l 123 125 (i + k + 1) 0 = if d = 0 then some q else deepTo l 123 125 q (d)) := ⟨by rw [HE.out, stepB, if_neg hxo, if_neg hxc]; try rfl⟩
                  clear HE
                  have g1 : (x == 123) = false := beq_eq_false_iff_ne.2 hxo
                  have g2 : (x == 125) = false := beq_eq_false_iff_ne.2 hxc
                  have g1' : (x == (((⟨#[40, 91, 123]⟩ : ByteArray)[2]'(by decide)).toNat : Int)) = false := g1
                  have g2' : (x == (((⟨#[41, 93, 125]⟩ : ByteArray)[2]'(by decide)).toNat : Int)) = false := g2
                  by_cases hz : d = 0
                  · have z1 : (d == 0) = true := beq_iff_eq.2 hz
                    have z2 : decide (d = 0) = true := decide_eq_true hz
                    obtain ⟨r0, r1, r2, z⟩ := HS.out.res.cell
                    have z0 := z 0
                    have z1 := z 1
                    have z2 := z 2
                    clear z
                    go_wp2_with fail
                    exact goal_postG HS.out rfl rfl (by rw [← HO.out, HP.out, HE2.out, if_pos hz]; rfl)
                  · have z1 : (d == 0) = false := beq_eq_false_iff_ne.2 hz
                    have z2 : decide (d = 0) = false := decide_eq_false hz
                    go_wp2_with fail
                    go_roundw
                    case rel => exact ⟨q, d, by go_num, by go_num, by omega, by omega, by omega, ⟨by rw [HE2.out, if_neg hz]⟩, HS⟩
                    case measure => simp [intOf]; omega
      · have h6 := six_no (Bool.eq_false_iff.2 hbr)
        go_wp2_with fail
        refine (c_six _ (grownCap_ge _ _ _ _) _ ch hbb).mono ?_
        rintro e w13 ⟨rfl, hd⟩
        have HT := Aside0.mk (HS.out.step (below_drew (below_alloc (Below.refl _ _) _)) hd.below)
        clear hd f0 f1 f2 f3 f4 f5 f6 HS
        have HS := HT
        clear HT
        obtain ⟨f0, f1, f2, f3, f4, f5, f6, _, _, _, _, _⟩ := HS.out.wk
        have h6' : decide (0 ≤ idxOf [40, 91, 123, 41, 93, 125] ch) = false := by rw [h6]; rfl
        have h6'' : decide (idxOf [40, 91, 123, 41, 93, 125] ch ≥ 0) = false := by rw [h6]; rfl
        have HB := Aside0.mk ((congrArg (Option.map (· + k)) (hst.out.trans (if_neg hbr))).symm.trans HL.out)
        clear HL hst h6
        go_wp2_with fail
        go_roundw
        case rel => exact ⟨k + 1, by go_num, rfl, by omega, ⟨by rw [← HB.out, Option.map_map]; congr 1; funext x; simp only [Function.comp]; omega⟩, HS⟩
        case measure => simp [intOf]; omega
    · skip
      have t1 : decide ((k : Int) < ((fin l i - i : Nat) : Int)) = false := decide_eq_false (by omega)
      have t1' : decide (k < (fin l i - i : Nat)) = false := decide_eq_false (by omega)
      obtain rfl : none = o := by rw [← HO.out, pair, ← HL.out, bracketIn_end (by rw [List.length_drop, List.length_take]; omega)]; rfl
      go_wp2_with (first | (go_at_call 92; refine (must_ok _).mono ?_; rintro e wm ⟨rfl, rfl⟩) | (go_at_call 92; refine (must_no _).mono ?_; rintro e wm ⟨rfl, rfl⟩))
      exact ⟨rfl, rfl, HS.out.bel⟩

theorem pair_calls (hW : Wk w g A c l i n op key A2 c2 a cn) (o : Option Gl) (h : ((pair l i).map incl) = o) : Calls Try.prog 75 #[.pointer (some ⟨g, 0, none⟩)] w fun e w' => e = endG o ∧ Below w.heap.size w w' := by
  by_cases hil : i < l.length
  · exact pair_yes hW o h hil
  · exact pair_no hW o h hil
end
end Go.Proofs.Ytiibjehnlphabaa

end

section
namespace Go.Proofs.Ytiibjehnlphabaa
open Go.RowKit Go.Proofs.YtiibjehnlphabaaW.PrintWords Go.Proofs.YtiibjehnlphabaaW.PrintMore Q
set_option linter.unusedVariables false
set_option linter.unusedSimpArgs false
section
variable {w : World} {g : Nat} {A : Option Addr} {c : Nat} {l : List Int} {i : Nat} {n : Nat} {op : Bool} {key : ByteArray} {A2 : Option Addr} {c2 : Nat} {a : List Int} {cn : Int}
set_option maxHeartbeats 400000 in
set_option maxRecDepth 100000 in
theorem tillBack_no (hW : Wk w g A c l i n op key A2 c2 a cn) (hx : behind l a n i = none) :
    Calls Try.prog 72 #[.pointer (some ⟨g, 0, none⟩)] w fun e w' => e = endG none ∧ Below w.heap.size w w' := by
  have hx' := Aside0.mk hx
  clear hx
  have HS := Aside0.mk (St.begin_ hW)
  have hn1 := hW.n1
  have hn2 := hW.n2
  have hi := begins_le hW.beg
  have hsz := hW.sl.ok.size
  clear hW
  obtain ⟨f0, f1, f2, f3, f4, f5, f6, _, _, _, _, _⟩ := HS.out.wk
  go_enter Try.func72, Try.ntmps72
  go_wp2_with fail
  have h0 : (fun w' => w'.cell? ⟨g, 0, none⟩ = some (.slice A l.length c)) ((w.alloc (.cells #[.int .i64 0, .bool false, .bool false] 25)).drew) := HS.out.wk.f0
  clear f0 f1 f2 f3 f4 f5 f6
  refine wp_region_held (S := fun w' => w'.cell? ⟨g, 0, none⟩ = some (.slice A l.length c)) (by kernel_rfl) ?_
  refine wpAnyH_take (i := 0) (v := ?v0) rfl (by kernel_rfl) (by kernel_rfl) (by kernel_rfl) (fun _ _ _ h => h) (Or.inl ⟨by rfl, ?hy0⟩) h0 ?rest0
  case hy0 =>
    intro w hSw
    (try dsimp only at hSw)
    go_simp
    all_goals with_reducible rfl
  simp only [Act.put, List.setIfInBounds_toArray, List.set_cons_zero, List.set_cons_succ]
  refine wpAnyH_take (i := 1) (v := ?v1) rfl (by kernel_rfl) (by kernel_rfl) (by kernel_rfl) (fun _ _ _ h => h) (Or.inl ⟨by rfl, ?hy1⟩) h0 ?rest1
  case hy1 =>
    intro w hSw
    (try dsimp only at hSw)
    go_simp
    all_goals with_reducible rfl
  simp only [Act.put, List.setIfInBounds_toArray, List.set_cons_zero, List.set_cons_succ]
  refine wpAnyH_take (i := 2) (v := ?v2) rfl (by kernel_rfl) (by kernel_rfl) (by kernel_rfl) (fun _ _ _ h => h) (Or.inl ⟨by rfl, ?hy2⟩) h0 ?rest2
  case hy2 =>
    intro w hSw
    (try dsimp only at hSw)
    go_simp
    all_goals with_reducible rfl
  simp only [Act.put, List.setIfInBounds_toArray, List.set_cons_zero, List.set_cons_succ]
  refine wpAnyH_take (i := 3) (v := ?v3) rfl (by kernel_rfl) (by kernel_rfl) (by kernel_rfl) (fun _ _ _ h => h) (Or.inl ⟨by rfl, ?hy3⟩) h0 ?rest3
  case hy3 =>
    intro w hSw
    (try dsimp only at hSw)
    go_simp
    all_goals with_reducible rfl
  simp only [Act.put, List.setIfInBounds_toArray, List.set_cons_zero, List.set_cons_succ]
  refine wpAnyH_take (i := 4) (v := ?v4) rfl (by kernel_rfl) (by kernel_rfl) (by kernel_rfl) (fun _ _ _ h => h) (Or.inl ⟨by rfl, ?hy4⟩) h0 ?rest4
  case hy4 =>
    intro w hSw
    (try dsimp only at hSw)
    go_simp
    all_goals with_reducible rfl
  simp only [Act.put, List.setIfInBounds_toArray, List.set_cons_zero, List.set_cons_succ]
  refine wpAnyH_ready (rs := [5]) (by kernel_rfl) (by simp) (AllReadyH.cons rfl (fun K hK => ?_) AllReadyH.nil)
  go_simp
  refine (behind_calls (HS.out.two (below_drew (Below.refl _ _))).wk none hx'.out).mono ?_
  rintro e w1 ⟨rfl, hd⟩
  have HT := HS.out.step (below_drew (Below.refl _ _)) hd
  simp only [endI]
  go_wp2_with fail
  exact ⟨rfl, rfl, HT.bel⟩

set_option maxHeartbeats 400000 in
set_option maxRecDepth 100000 in
theorem tail_no (hW : Wk w g A c l i n op key A2 c2 a cn) (hx : below l (n - 1) i = none) :
    Calls Try.prog 63 #[.pointer (some ⟨g, 0, none⟩)] w fun e w' => e = endG none ∧ Below w.heap.size w w' := by
  have hx' := Aside0.mk hx
  clear hx
  have HS := Aside0.mk (St.begin_ hW)
  have hn1 := hW.n1
  have hn2 := hW.n2
  have hi := begins_le hW.beg
  have hsz := hW.sl.ok.size
  clear hW
  obtain ⟨f0, f1, f2, f3, f4, f5, f6, _, _, _, _, _⟩ := HS.out.wk
  go_enter Try.func63, Try.ntmps63
  go_wp2_with fail
  have e1 : IntKind.i64.wrap ((n : Int) - 1) = ((n - 1 : Nat) : Int) := by rw [IntWalk.i64_in _ (by omega)]; omega
  have h0 : (fun w' => w'.cell? ⟨g, 0, none⟩ = some (.slice A l.length c) ∧ w'.cell? ⟨g, 2, none⟩ = some (.int .i64 (n : Int))) ((w.alloc (.cells #[.int .i64 0, .bool false, .bool false] 25)).drew) := ⟨HS.out.wk.f0, HS.out.wk.f2⟩
  clear f0 f1 f2 f3 f4 f5 f6
  refine wp_region_held (S := fun w' => w'.cell? ⟨g, 0, none⟩ = some (.slice A l.length c) ∧ w'.cell? ⟨g, 2, none⟩ = some (.int .i64 (n : Int))) (by kernel_rfl) ?_
  refine wpAnyH_take (i := 0) (v := ?v0) rfl (by kernel_rfl) (by kernel_rfl) (by kernel_rfl) (fun _ _ _ h => h) (Or.inl ⟨by rfl, ?hy0⟩) h0 ?rest0
  case hy0 =>
    intro w hSw
    (try dsimp only at hSw)
    go_simp
    all_goals with_reducible rfl
  simp only [Act.put, List.setIfInBounds_toArray, List.set_cons_zero, List.set_cons_succ]
  refine wpAnyH_take (i := 1) (v := ?v1) rfl (by kernel_rfl) (by kernel_rfl) (by kernel_rfl) (fun _ _ _ h => h) (Or.inl ⟨by rfl, ?hy1⟩) h0 ?rest1
  case hy1 =>
    intro w hSw
    (try dsimp only at hSw)
    go_simp
    all_goals with_reducible rfl
  simp only [Act.put, List.setIfInBounds_toArray, List.set_cons_zero, List.set_cons_succ]
  refine wpAnyH_take (i := 2) (v := ?v2) rfl (by kernel_rfl) (by kernel_rfl) (by kernel_rfl) (fun _ _ _ h => h) (Or.inl ⟨by rfl, ?hy2⟩) h0 ?rest2
  case hy2 =>
    intro w hSw
    (try dsimp only at hSw)
    go_simp
    all_goals with_reducible rfl
  simp only [Act.put, List.setIfInBounds_toArray, List.set_cons_zero, List.set_cons_succ]
  refine wpAnyH_take (i := 3) (v := ?v3) rfl (by kernel_rfl) (by kernel_rfl) (by kernel_rfl) (fun _ _ _ h => h) (Or.inl ⟨by rfl, ?hy3⟩) h0 ?rest3
  case hy3 =>
    intro w hSw
    (try dsimp only at hSw)
    go_simp
    all_goals with_reducible rfl
  simp only [Act.put, List.setIfInBounds_toArray, List.set_cons_zero, List.set_cons_succ]
  refine wpAnyH_take (i := 4) (v := ?v4) rfl (by kernel_rfl) (by kernel_rfl) (by kernel_rfl) (fun _ _ _ h => h) (Or.inl ⟨by rfl, ?hy4⟩) h0 ?rest4
  case hy4 =>
    intro w hSw
    (try dsimp only at hSw)
    go_simp
    all_goals with_reducible rfl
  simp only [Act.put, List.setIfInBounds_toArray, List.set_cons_zero, List.set_cons_succ]
  refine wpAnyH_take (i := 5) (v := ?v5) rfl (by kernel_rfl) (by kernel_rfl) (by kernel_rfl) (fun _ _ _ h => h) (Or.inl ⟨by rfl, ?hy5⟩) h0 ?rest5
  case hy5 =>
    intro w hSw
    (try dsimp only at hSw)
    go_simp
    all_goals with_reducible rfl
  simp only [Act.put, List.setIfInBounds_toArray, List.set_cons_zero, List.set_cons_succ]
  refine wpAnyH_take (i := 6) (v := ?v6) rfl (by kernel_rfl) (by kernel_rfl) (by kernel_rfl) (fun _ _ _ h => h) (Or.inl ⟨by rfl, ?hy6⟩) h0 ?rest6
  case hy6 =>
    intro w hSw
    (try dsimp only at hSw)
    go_simp
    all_goals with_reducible rfl
  simp only [Act.put, List.setIfInBounds_toArray, List.set_cons_zero, List.set_cons_succ]
  refine wpAnyH_take (i := 7) (v := ?v7) rfl (by kernel_rfl) (by kernel_rfl) (by kernel_rfl) (fun _ _ _ h => h) (Or.inl ⟨by rfl, ?hy7⟩) h0 ?rest7
  case hy7 =>
    intro w hSw
    (try dsimp only at hSw)
    go_simp
    all_goals with_reducible rfl
  simp only [Act.put, List.setIfInBounds_toArray, List.set_cons_zero, List.set_cons_succ]
  refine wpAnyH_take (i := 8) (v := ?v8) rfl (by kernel_rfl) (by kernel_rfl) (by kernel_rfl) (fun _ _ _ h => h) (Or.inl ⟨by rfl, ?hy8⟩) h0 ?rest8
  case hy8 =>
    intro w hSw
    (try dsimp only at hSw)
    go_simp
    all_goals with_reducible rfl
  simp only [Act.put, List.setIfInBounds_toArray, List.set_cons_zero, List.set_cons_succ]
  refine wpAnyH_take (i := 9) (v := ?v9) rfl (by kernel_rfl) (by kernel_rfl) (by kernel_rfl) (fun _ _ _ h => h) (Or.inl ⟨by rfl, ?hy9⟩) h0 ?rest9
  case hy9 =>
    intro w hSw
    (try dsimp only at hSw)
    go_simp
    all_goals with_reducible rfl
  simp only [Act.put, List.setIfInBounds_toArray, List.set_cons_zero, List.set_cons_succ]
  refine wpAnyH_take (i := 10) (v := ?v10) rfl (by kernel_rfl) (by kernel_rfl) (by kernel_rfl) (fun _ _ _ h => h) (Or.inl ⟨by rfl, ?hy10⟩) h0 ?rest10
  case hy10 =>
    intro w hSw
    (try dsimp only at hSw)
    go_simp
    all_goals with_reducible rfl
  simp only [Act.put, List.setIfInBounds_toArray, List.set_cons_zero, List.set_cons_succ]
  refine wpAnyH_take (i := 11) (v := ?v11) rfl (by kernel_rfl) (by kernel_rfl) (by kernel_rfl) (fun _ _ _ h => h) (Or.inl ⟨by rfl, ?hy11⟩) h0 ?rest11
  case hy11 =>
    intro w hSw
    (try dsimp only at hSw)
    go_simp
    all_goals with_reducible rfl
  simp only [Act.put, List.setIfInBounds_toArray, List.set_cons_zero, List.set_cons_succ]
  refine wpAnyH_take (i := 12) (v := ?v12) rfl (by kernel_rfl) (by kernel_rfl) (by kernel_rfl) (fun _ _ _ h => h) (Or.inl ⟨by rfl, ?hy12⟩) h0 ?rest12
  case hy12 =>
    intro w hSw
    (try dsimp only at hSw)
    go_simp
    all_goals with_reducible rfl
  simp only [Act.put, List.setIfInBounds_toArray, List.set_cons_zero, List.set_cons_succ]
  refine wpAnyH_take (i := 13) (v := ?v13) rfl (by kernel_rfl) (by kernel_rfl) (by kernel_rfl) (fun _ _ _ h => h) (Or.inl ⟨by rfl, ?hy13⟩) h0 ?rest13
  case hy13 =>
    intro w hSw
    (try dsimp only at hSw)
    go_simp
    all_goals with_reducible rfl
  simp only [Act.put, List.setIfInBounds_toArray, List.set_cons_zero, List.set_cons_succ]
  refine wpAnyH_ready (rs := [14]) (by kernel_rfl) (by simp) (AllReadyH.cons rfl (fun K hK => ?_) AllReadyH.nil)
  go_simp
  refine (below_calls (HS.out.two (below_drew (Below.refl _ _))).wk (n - 1) (by omega) none hx'.out).mono ?_
  rintro e w1 ⟨rfl, hd⟩
  have HT := HS.out.step (below_drew (Below.refl _ _)) hd
  simp only [endI]
  go_wp2_with fail
  exact ⟨rfl, rfl, HT.bel⟩

theorem behindN_le {l a : List Int} {q : Nat} : ∀ (f m j p : Nat), j ≤ l.length → behindN l a q f m j = some p → p ≤ l.length
  | 0, _, _, _, _, h => by cases h
  | f + 1, m, j, p, hj, h => by
    simp only [behindN] at h
    split at h
    · split at h
      · split at h
        · cases h; omega
        · exact behindN_le f _ _ p (by omega) h
      · exact behindN_le f _ _ p (by omega) h
    · cases h
theorem behind_le {l a : List Int} {m j p : Nat} (h : behind l a m j = some p) (hj : j ≤ l.length) : p ≤ l.length := by
  unfold behind at h
  split at h
  · exact behindN_le _ _ _ _ hj h
  · cases h
theorem below_le {l : List Int} : ∀ {m j p : Nat}, below l m j = some p → j ≤ l.length → p ≤ l.length
  | 0, j, p, h, hj => by
    simp only [below] at h
    cases h
    have := start_le l j
    omega
  | m + 1, j, p, h, hj => by
    simp only [below] at h
    split at h
    · exact below_le h (by omega)
    · cases h
theorem tail_calls (hW : Wk w g A c l i n op key A2 c2 a cn) (o : Option Gl) (h : ((below l (n - 1) i).map fun p => incl (rest l (fin l p))) = o) : Calls Try.prog 63 #[.pointer (some ⟨g, 0, none⟩)] w fun e w' => e = endG o ∧ Below w.heap.size w w' := by
  subst h
  cases hx : below l (n - 1) i with
  | none => exact tail_no hW hx
  | some p => exact tail_yes hW p hx (below_le hx (begins_le hW.beg))
theorem tillBack_calls (hW : Wk w g A c l i n op key A2 c2 a cn) (o : Option Gl) (h : ((behind l a n i).map fun p => plain_ (on l p)) = o) : Calls Try.prog 72 #[.pointer (some ⟨g, 0, none⟩)] w fun e w' => e = endG o ∧ Below w.heap.size w w' := by
  subst h
  cases hx : behind l a n i with
  | none => exact tillBack_no hW hx
  | some p => exact tillBack_yes hW p hx (behind_le hx (begins_le hW.beg))
end
end Go.Proofs.Ytiibjehnlphabaa

end

section
namespace Go.Proofs.Ytiibjehnlphabaa
open Go.RowKit Go.Proofs.YtiibjehnlphabaaW.PrintWords Go.Proofs.YtiibjehnlphabaaW.PrintMore Q
set_option linter.unusedVariables false
set_option linter.unusedSimpArgs false
section
variable {w : World} {g : Nat} {A : Option Addr} {c : Nat} {l : List Int} {i : Nat} {n : Nat} {op : Bool} {key : ByteArray} {A2 : Option Addr} {c2 : Nat} {a : List Int} {cn : Int}
theorem how_0 : Calls Try.prog 39 #[.string ⟨#[104]⟩] w fun e w' => e = .returned (.func (.func 56) #[] #[]) ∧ w = w' := by
  go_enter Try.func39, Try.ntmps39
  go_wp2_with fail
  go_ret
  exact ⟨rfl, rfl⟩

theorem how_1 : Calls Try.prog 39 #[.string ⟨#[108]⟩] w fun e w' => e = .returned (.func (.func 57) #[] #[]) ∧ w = w' := by
  go_enter Try.func39, Try.ntmps39
  go_wp2_with fail
  go_ret
  exact ⟨rfl, rfl⟩

theorem how_2 : Calls Try.prog 39 #[.string ⟨#[106]⟩] w fun e w' => e = .returned (.func (.func 58) #[] #[]) ∧ w = w' := by
  go_enter Try.func39, Try.ntmps39
  go_wp2_with fail
  go_ret
  exact ⟨rfl, rfl⟩

theorem how_3 : Calls Try.prog 39 #[.string ⟨#[107]⟩] w fun e w' => e = .returned (.func (.func 59) #[] #[]) ∧ w = w' := by
  go_enter Try.func39, Try.ntmps39
  go_wp2_with fail
  go_ret
  exact ⟨rfl, rfl⟩

theorem how_4 : Calls Try.prog 39 #[.string ⟨#[48]⟩] w fun e w' => e = .returned (.func (.func 60) #[] #[]) ∧ w = w' := by
  go_enter Try.func39, Try.ntmps39
  go_wp2_with fail
  go_ret
  exact ⟨rfl, rfl⟩

theorem how_5 : Calls Try.prog 39 #[.string ⟨#[94]⟩] w fun e w' => e = .returned (.func (.func 61) #[] #[]) ∧ w = w' := by
  go_enter Try.func39, Try.ntmps39
  go_wp2_with fail
  go_ret
  exact ⟨rfl, rfl⟩

theorem how_6 : Calls Try.prog 39 #[.string ⟨#[124]⟩] w fun e w' => e = .returned (.func (.func 62) #[] #[]) ∧ w = w' := by
  go_enter Try.func39, Try.ntmps39
  go_wp2_with fail
  go_ret
  exact ⟨rfl, rfl⟩

theorem how_7 : Calls Try.prog 39 #[.string ⟨#[36]⟩] w fun e w' => e = .returned (.func (.func 63) #[] #[]) ∧ w = w' := by
  go_enter Try.func39, Try.ntmps39
  go_wp2_with fail
  go_ret
  exact ⟨rfl, rfl⟩

theorem how_8 : Calls Try.prog 39 #[.string ⟨#[119]⟩] w fun e w' => e = .returned (.func (.func 64) #[] #[]) ∧ w = w' := by
  go_enter Try.func39, Try.ntmps39
  go_wp2_with fail
  go_ret
  exact ⟨rfl, rfl⟩

theorem how_9 : Calls Try.prog 39 #[.string ⟨#[101]⟩] w fun e w' => e = .returned (.func (.func 65) #[] #[]) ∧ w = w' := by
  go_enter Try.func39, Try.ntmps39
  go_wp2_with fail
  go_ret
  exact ⟨rfl, rfl⟩

theorem how_10 : Calls Try.prog 39 #[.string ⟨#[98]⟩] w fun e w' => e = .returned (.func (.func 66) #[] #[]) ∧ w = w' := by
  go_enter Try.func39, Try.ntmps39
  go_wp2_with fail
  go_ret
  exact ⟨rfl, rfl⟩

theorem how_11 : Calls Try.prog 39 #[.string ⟨#[71]⟩] w fun e w' => e = .returned (.func (.func 67) #[] #[]) ∧ w = w' := by
  go_enter Try.func39, Try.ntmps39
  go_wp2_with fail
  go_ret
  exact ⟨rfl, rfl⟩

theorem how_12 : Calls Try.prog 39 #[.string ⟨#[103, 103]⟩] w fun e w' => e = .returned (.func (.func 68) #[] #[]) ∧ w = w' := by
  go_enter Try.func39, Try.ntmps39
  go_wp2_with fail
  go_ret
  exact ⟨rfl, rfl⟩

theorem how_13 : Calls Try.prog 39 #[.string ⟨#[102]⟩] w fun e w' => e = .returned (.func (.func 69) #[] #[]) ∧ w = w' := by
  go_enter Try.func39, Try.ntmps39
  go_wp2_with fail
  go_ret
  exact ⟨rfl, rfl⟩

theorem how_14 : Calls Try.prog 39 #[.string ⟨#[116]⟩] w fun e w' => e = .returned (.func (.func 70) #[] #[]) ∧ w = w' := by
  go_enter Try.func39, Try.ntmps39
  go_wp2_with fail
  go_ret
  exact ⟨rfl, rfl⟩

theorem how_15 : Calls Try.prog 39 #[.string ⟨#[70]⟩] w fun e w' => e = .returned (.func (.func 71) #[] #[]) ∧ w = w' := by
  go_enter Try.func39, Try.ntmps39
  go_wp2_with fail
  go_ret
  exact ⟨rfl, rfl⟩

theorem how_16 : Calls Try.prog 39 #[.string ⟨#[84]⟩] w fun e w' => e = .returned (.func (.func 72) #[] #[]) ∧ w = w' := by
  go_enter Try.func39, Try.ntmps39
  go_wp2_with fail
  go_ret
  exact ⟨rfl, rfl⟩

theorem how_17 : Calls Try.prog 39 #[.string ⟨#[125]⟩] w fun e w' => e = .returned (.func (.func 73) #[] #[]) ∧ w = w' := by
  go_enter Try.func39, Try.ntmps39
  go_wp2_with fail
  go_ret
  exact ⟨rfl, rfl⟩

theorem how_18 : Calls Try.prog 39 #[.string ⟨#[123]⟩] w fun e w' => e = .returned (.func (.func 74) #[] #[]) ∧ w = w' := by
  go_enter Try.func39, Try.ntmps39
  go_wp2_with fail
  go_ret
  exact ⟨rfl, rfl⟩

theorem how_19 : Calls Try.prog 39 #[.string ⟨#[37]⟩] w fun e w' => e = .returned (.func (.func 75) #[] #[]) ∧ w = w' := by
  go_enter Try.func39, Try.ntmps39
  go_wp2_with fail
  go_ret
  exact ⟨rfl, rfl⟩

theorem how_none (h0 : ¬ key.toList = [104]) (h1 : ¬ key.toList = [108]) (h2 : ¬ key.toList = [106]) (h3 : ¬ key.toList = [107]) (h4 : ¬ key.toList = [48]) (h5 : ¬ key.toList = [94]) (h6 : ¬ key.toList = [124]) (h7 : ¬ key.toList = [36]) (h8 : ¬ key.toList = [119]) (h9 : ¬ key.toList = [101]) (h10 : ¬ key.toList = [98]) (h11 : ¬ key.toList = [71]) (h12 : ¬ key.toList = [103, 103]) (h13 : ¬ key.toList = [102]) (h14 : ¬ key.toList = [116]) (h15 : ¬ key.toList = [70]) (h16 : ¬ key.toList = [84]) (h17 : ¬ key.toList = [125]) (h18 : ¬ key.toList = [123]) (h19 : ¬ key.toList = [37]) : Calls Try.prog 39 #[.string key] w fun e w' => e = .returned (.func (.func 76) #[] #[]) ∧ w = w' := by
  have e0 : (key.toList == [104]) = false := beq_eq_false_iff_ne.2 h0
  have e1 : (key.toList == [108]) = false := beq_eq_false_iff_ne.2 h1
  have e2 : (key.toList == [106]) = false := beq_eq_false_iff_ne.2 h2
  have e3 : (key.toList == [107]) = false := beq_eq_false_iff_ne.2 h3
  have e4 : (key.toList == [48]) = false := beq_eq_false_iff_ne.2 h4
  have e5 : (key.toList == [94]) = false := beq_eq_false_iff_ne.2 h5
  have e6 : (key.toList == [124]) = false := beq_eq_false_iff_ne.2 h6
  have e7 : (key.toList == [36]) = false := beq_eq_false_iff_ne.2 h7
  have e8 : (key.toList == [119]) = false := beq_eq_false_iff_ne.2 h8
  have e9 : (key.toList == [101]) = false := beq_eq_false_iff_ne.2 h9
  have e10 : (key.toList == [98]) = false := beq_eq_false_iff_ne.2 h10
  have e11 : (key.toList == [71]) = false := beq_eq_false_iff_ne.2 h11
  have e12 : (key.toList == [103, 103]) = false := beq_eq_false_iff_ne.2 h12
  have e13 : (key.toList == [102]) = false := beq_eq_false_iff_ne.2 h13
  have e14 : (key.toList == [116]) = false := beq_eq_false_iff_ne.2 h14
  have e15 : (key.toList == [70]) = false := beq_eq_false_iff_ne.2 h15
  have e16 : (key.toList == [84]) = false := beq_eq_false_iff_ne.2 h16
  have e17 : (key.toList == [125]) = false := beq_eq_false_iff_ne.2 h17
  have e18 : (key.toList == [123]) = false := beq_eq_false_iff_ne.2 h18
  have e19 : (key.toList == [37]) = false := beq_eq_false_iff_ne.2 h19
  clear h0 h1 h2 h3 h4 h5 h6 h7 h8 h9 h10 h11 h12 h13 h14 h15 h16 h17 h18 h19
  go_enter Try.func39, Try.ntmps39
  go_wp2_with fail
  go_ret
  exact ⟨rfl, rfl⟩
end
end Go.Proofs.Ytiibjehnlphabaa

end

section
namespace Go.Proofs.Ytiibjehnlphabaa
open Go.RowKit Go.Proofs.YtiibjehnlphabaaW.PrintWords Go.Proofs.YtiibjehnlphabaaW.PrintMore Q
set_option linter.unusedVariables false
set_option linter.unusedSimpArgs false
section
variable {w : World} {g : Nat} {A : Option Addr} {c : Nat} {l : List Int} {i : Nat} {n : Nat} {op : Bool} {key : ByteArray} {A2 : Option Addr} {c2 : Nat} {a : List Int} {cn : Int}
/-- What the table answers, and that the method so found goes where the plain motion goes. -/
def MethodOk (l : List Int) (i n : Nat) (op : Bool) (key : ByteArray) (a : List Int) (cn : Int) (f : Nat) (o : Option Gl) : Prop :=
  (∀ w, Calls Try.prog 39 #[.string key] w fun e w' => e = .returned (.func (.func f) #[] #[]) ∧ w = w') ∧
  (∀ (args : Array Value) (W : World), (callFunc f args).run Try.prog W = .ok (.enter f args) W) ∧
  ∀ (w : World) (g : Nat) (A : Option Addr) (c : Nat) (A2 : Option Addr) (c2 : Nat), Wk w g A c l i n op key A2 c2 a cn → Calls Try.prog f #[.pointer (some ⟨g, 0, none⟩)] w fun e w' => e = endG o ∧ Below w.heap.size w w'
theorem method_0 {o : Option Gl} (hn : n = times cn) (hc1 : -9223372036854775808 ≤ cn) (hc2 : cn ≤ 9223372036854775807) (h : motion l i [104] a cn op = o) : MethodOk l i n op ⟨#[104]⟩ a cn 56 o := by
  refine ⟨fun w => how_0, fun args W => by kernel_rfl, fun w g A c A2 c2 hW => ?_⟩
  have hi := begins_le hW.beg
  have hm := h
  simp (decide := true) only [motion, reduceIte, ← hn] at hm
  exact left_calls hW _ hm
theorem method_1 {o : Option Gl} (hn : n = times cn) (hc1 : -9223372036854775808 ≤ cn) (hc2 : cn ≤ 9223372036854775807) (h : motion l i [108] a cn op = o) : MethodOk l i n op ⟨#[108]⟩ a cn 57 o := by
  refine ⟨fun w => how_1, fun args W => by kernel_rfl, fun w g A c A2 c2 hW => ?_⟩
  have hi := begins_le hW.beg
  have hm := h
  simp (decide := true) only [motion, reduceIte, ← hn] at hm
  exact right_calls hW _ hm
theorem method_2 {o : Option Gl} (hn : n = times cn) (hc1 : -9223372036854775808 ≤ cn) (hc2 : cn ≤ 9223372036854775807) (h : motion l i [106] a cn op = o) : MethodOk l i n op ⟨#[106]⟩ a cn 58 o := by
  refine ⟨fun w => how_2, fun args W => by kernel_rfl, fun w g A c A2 c2 hW => ?_⟩
  have hi := begins_le hW.beg
  have hm := h
  simp (decide := true) only [motion, reduceIte, ← hn] at hm
  exact down_calls hW _ (fun p => below_begins hi) hm
theorem method_3 {o : Option Gl} (hn : n = times cn) (hc1 : -9223372036854775808 ≤ cn) (hc2 : cn ≤ 9223372036854775807) (h : motion l i [107] a cn op = o) : MethodOk l i n op ⟨#[107]⟩ a cn 59 o := by
  refine ⟨fun w => how_3, fun args W => by kernel_rfl, fun w g A c A2 c2 hW => ?_⟩
  have hi := begins_le hW.beg
  have hm := h
  simp (decide := true) only [motion, reduceIte, ← hn] at hm
  exact up_calls hW _ (fun p => above_begins hi) hm
theorem method_4 {o : Option Gl} (hn : n = times cn) (hc1 : -9223372036854775808 ≤ cn) (hc2 : cn ≤ 9223372036854775807) (h : motion l i [48] a cn op = o) : MethodOk l i n op ⟨#[48]⟩ a cn 60 o := by
  refine ⟨fun w => how_4, fun args W => by kernel_rfl, fun w g A c A2 c2 hW => ?_⟩
  have hi := begins_le hW.beg
  have hm := h
  simp (decide := true) only [motion, reduceIte, ← hn] at hm
  exact hm ▸ begin_calls hW
theorem method_5 {o : Option Gl} (hn : n = times cn) (hc1 : -9223372036854775808 ≤ cn) (hc2 : cn ≤ 9223372036854775807) (h : motion l i [94] a cn op = o) : MethodOk l i n op ⟨#[94]⟩ a cn 61 o := by
  refine ⟨fun w => how_5, fun args W => by kernel_rfl, fun w g A c A2 c2 hW => ?_⟩
  have hi := begins_le hW.beg
  have hm := h
  simp (decide := true) only [motion, reduceIte, ← hn] at hm
  exact hm ▸ indent_calls hW
theorem method_6 {o : Option Gl} (hn : n = times cn) (hc1 : -9223372036854775808 ≤ cn) (hc2 : cn ≤ 9223372036854775807) (h : motion l i [124] a cn op = o) : MethodOk l i n op ⟨#[124]⟩ a cn 62 o := by
  refine ⟨fun w => how_6, fun args W => by kernel_rfl, fun w g A c A2 c2 hW => ?_⟩
  have hi := begins_le hW.beg
  have hm := h
  simp (decide := true) only [motion, reduceIte, ← hn] at hm
  exact hm ▸ bar_calls hW
theorem method_7 {o : Option Gl} (hn : n = times cn) (hc1 : -9223372036854775808 ≤ cn) (hc2 : cn ≤ 9223372036854775807) (h : motion l i [36] a cn op = o) : MethodOk l i n op ⟨#[36]⟩ a cn 63 o := by
  refine ⟨fun w => how_7, fun args W => by kernel_rfl, fun w g A c A2 c2 hW => ?_⟩
  have hi := begins_le hW.beg
  have hm := h
  simp (decide := true) only [motion, reduceIte, ← hn] at hm
  exact tail_calls hW _ hm
theorem method_8 {o : Option Gl} (hn : n = times cn) (hc1 : -9223372036854775808 ≤ cn) (hc2 : cn ≤ 9223372036854775807) (h : motion l i [119] a cn op = o) : MethodOk l i n op ⟨#[119]⟩ a cn 64 o := by
  refine ⟨fun w => how_8, fun args W => by kernel_rfl, fun w g A c A2 c2 hW => ?_⟩
  have hi := begins_le hW.beg
  have hm := h
  simp (decide := true) only [motion, reduceIte, ← hn] at hm
  exact words_calls hW _ hm
theorem method_9 {o : Option Gl} (hn : n = times cn) (hc1 : -9223372036854775808 ≤ cn) (hc2 : cn ≤ 9223372036854775807) (h : motion l i [101] a cn op = o) : MethodOk l i n op ⟨#[101]⟩ a cn 65 o := by
  refine ⟨fun w => how_9, fun args W => by kernel_rfl, fun w g A c A2 c2 hW => ?_⟩
  have hi := begins_le hW.beg
  have hm := h
  simp (decide := true) only [motion, reduceIte, ← hn] at hm
  exact ends_calls hW _ hm
theorem method_10 {o : Option Gl} (hn : n = times cn) (hc1 : -9223372036854775808 ≤ cn) (hc2 : cn ≤ 9223372036854775807) (h : motion l i [98] a cn op = o) : MethodOk l i n op ⟨#[98]⟩ a cn 66 o := by
  refine ⟨fun w => how_10, fun args W => by kernel_rfl, fun w g A c A2 c2 hW => ?_⟩
  have hi := begins_le hW.beg
  have hm := h
  simp (decide := true) only [motion, reduceIte, ← hn] at hm
  exact backs_calls hW _ hm
theorem method_11 {o : Option Gl} (hn : n = times cn) (hc1 : -9223372036854775808 ≤ cn) (hc2 : cn ≤ 9223372036854775807) (h : motion l i [71] a cn op = o) : MethodOk l i n op ⟨#[71]⟩ a cn 67 o := by
  refine ⟨fun w => how_11, fun args W => by kernel_rfl, fun w g A c A2 c2 hW => ?_⟩
  have hi := begins_le hW.beg
  have hm := h
  simp (decide := true) only [motion, reduceIte, ← hn] at hm
  exact hm ▸ last_calls hW hc2 hc1 (lineN_begins (begins_zero l))
theorem method_12 {o : Option Gl} (hn : n = times cn) (hc1 : -9223372036854775808 ≤ cn) (hc2 : cn ≤ 9223372036854775807) (h : motion l i [103, 103] a cn op = o) : MethodOk l i n op ⟨#[103, 103]⟩ a cn 68 o := by
  refine ⟨fun w => how_12, fun args W => by kernel_rfl, fun w g A c A2 c2 hW => ?_⟩
  have hi := begins_le hW.beg
  have hm := h
  simp (decide := true) only [motion, reduceIte, ← hn] at hm
  exact hm ▸ first_calls hW hc2 hc1 (lineN_begins (begins_zero l))
theorem method_13 {o : Option Gl} (hn : n = times cn) (hc1 : -9223372036854775808 ≤ cn) (hc2 : cn ≤ 9223372036854775807) (h : motion l i [102] a cn op = o) : MethodOk l i n op ⟨#[102]⟩ a cn 69 o := by
  refine ⟨fun w => how_13, fun args W => by kernel_rfl, fun w g A c A2 c2 hW => ?_⟩
  have hi := begins_le hW.beg
  have hm := h
  simp (decide := true) only [motion, reduceIte, ← hn] at hm
  exact find_calls hW _ hm
theorem method_14 {o : Option Gl} (hn : n = times cn) (hc1 : -9223372036854775808 ≤ cn) (hc2 : cn ≤ 9223372036854775807) (h : motion l i [116] a cn op = o) : MethodOk l i n op ⟨#[116]⟩ a cn 70 o := by
  refine ⟨fun w => how_14, fun args W => by kernel_rfl, fun w g A c A2 c2 hW => ?_⟩
  have hi := begins_le hW.beg
  have hm := h
  simp (decide := true) only [motion, reduceIte, ← hn] at hm
  exact till_calls hW _ (fun p => ahead_le hi) hm
theorem method_15 {o : Option Gl} (hn : n = times cn) (hc1 : -9223372036854775808 ≤ cn) (hc2 : cn ≤ 9223372036854775807) (h : motion l i [70] a cn op = o) : MethodOk l i n op ⟨#[70]⟩ a cn 71 o := by
  refine ⟨fun w => how_15, fun args W => by kernel_rfl, fun w g A c A2 c2 hW => ?_⟩
  have hi := begins_le hW.beg
  have hm := h
  simp (decide := true) only [motion, reduceIte, ← hn] at hm
  exact findBack_calls hW _ hm
theorem method_16 {o : Option Gl} (hn : n = times cn) (hc1 : -9223372036854775808 ≤ cn) (hc2 : cn ≤ 9223372036854775807) (h : motion l i [84] a cn op = o) : MethodOk l i n op ⟨#[84]⟩ a cn 72 o := by
  refine ⟨fun w => how_16, fun args W => by kernel_rfl, fun w g A c A2 c2 hW => ?_⟩
  have hi := begins_le hW.beg
  have hm := h
  simp (decide := true) only [motion, reduceIte, ← hn] at hm
  exact tillBack_calls hW _ hm
theorem method_17 {o : Option Gl} (hn : n = times cn) (hc1 : -9223372036854775808 ≤ cn) (hc2 : cn ≤ 9223372036854775807) (h : motion l i [125] a cn op = o) : MethodOk l i n op ⟨#[125]⟩ a cn 73 o := by
  refine ⟨fun w => how_17, fun args W => by kernel_rfl, fun w g A c A2 c2 hW => ?_⟩
  have hi := begins_le hW.beg
  have hm := h
  simp (decide := true) only [motion, reduceIte, ← hn] at hm
  exact paragraph_calls hW _ hm
theorem method_18 {o : Option Gl} (hn : n = times cn) (hc1 : -9223372036854775808 ≤ cn) (hc2 : cn ≤ 9223372036854775807) (h : motion l i [123] a cn op = o) : MethodOk l i n op ⟨#[123]⟩ a cn 74 o := by
  refine ⟨fun w => how_18, fun args W => by kernel_rfl, fun w g A c A2 c2 hW => ?_⟩
  have hi := begins_le hW.beg
  have hm := h
  simp (decide := true) only [motion, reduceIte, ← hn] at hm
  exact paragraphBack_calls hW _ hm
theorem method_19 {o : Option Gl} (hn : n = times cn) (hc1 : -9223372036854775808 ≤ cn) (hc2 : cn ≤ 9223372036854775807) (h : motion l i [37] a cn op = o) : MethodOk l i n op ⟨#[37]⟩ a cn 75 o := by
  refine ⟨fun w => how_19, fun args W => by kernel_rfl, fun w g A c A2 c2 hW => ?_⟩
  have hi := begins_le hW.beg
  have hm := h
  simp (decide := true) only [motion, reduceIte, ← hn] at hm
  exact pair_calls hW _ hm

theorem method_none {o : Option Gl} (h0 : ¬ key.toList = [104]) (h1 : ¬ key.toList = [108]) (h2 : ¬ key.toList = [106]) (h3 : ¬ key.toList = [107]) (h4 : ¬ key.toList = [48]) (h5 : ¬ key.toList = [94]) (h6 : ¬ key.toList = [124]) (h7 : ¬ key.toList = [36]) (h8 : ¬ key.toList = [119]) (h9 : ¬ key.toList = [101]) (h10 : ¬ key.toList = [98]) (h11 : ¬ key.toList = [71]) (h12 : ¬ key.toList = [103, 103]) (h13 : ¬ key.toList = [102]) (h14 : ¬ key.toList = [116]) (h15 : ¬ key.toList = [70]) (h16 : ¬ key.toList = [84]) (h17 : ¬ key.toList = [125]) (h18 : ¬ key.toList = [123]) (h19 : ¬ key.toList = [37]) (h : motion l i key.toList a cn op = o) : MethodOk l i n op key a cn 76 o := by
  refine ⟨fun w => how_none h0 h1 h2 h3 h4 h5 h6 h7 h8 h9 h10 h11 h12 h13 h14 h15 h16 h17 h18 h19, fun args W => by kernel_rfl, fun w g A c A2 c2 hW => ?_⟩
  simp only [motion, if_neg h0, if_neg h1, if_neg h2, if_neg h3, if_neg h4, if_neg h5, if_neg h6, if_neg h7, if_neg h8, if_neg h9, if_neg h10, if_neg h11, if_neg h12, if_neg h13, if_neg h14, if_neg h15, if_neg h16, if_neg h17, if_neg h18, if_neg h19] at h
  exact h ▸ none_calls hW
theorem eq_of_toList {k : ByteArray} {x : Array UInt8} (h : k.toList = x.toList) : k = ⟨x⟩ := by
  rw [Lib.toList_data] at h
  cases k
  congr 1
  exact Array.toList_inj.1 h
theorem method_all (hn : n = times cn) (hc1 : -9223372036854775808 ≤ cn) (hc2 : cn ≤ 9223372036854775807) (o : Option Gl) (h : motion l i key.toList a cn op = o) : ∃ f, MethodOk l i n op key a cn f o := by
  by_cases h0 : key.toList = [104]
  · rw [h0] at h
    rw [eq_of_toList (x := #[104]) h0]
    exact ⟨_, method_0 hn hc1 hc2 h⟩
  by_cases h1 : key.toList = [108]
  · rw [h1] at h
    rw [eq_of_toList (x := #[108]) h1]
    exact ⟨_, method_1 hn hc1 hc2 h⟩
  by_cases h2 : key.toList = [106]
  · rw [h2] at h
    rw [eq_of_toList (x := #[106]) h2]
    exact ⟨_, method_2 hn hc1 hc2 h⟩
  by_cases h3 : key.toList = [107]
  · rw [h3] at h
    rw [eq_of_toList (x := #[107]) h3]
    exact ⟨_, method_3 hn hc1 hc2 h⟩
  by_cases h4 : key.toList = [48]
  · rw [h4] at h
    rw [eq_of_toList (x := #[48]) h4]
    exact ⟨_, method_4 hn hc1 hc2 h⟩
  by_cases h5 : key.toList = [94]
  · rw [h5] at h
    rw [eq_of_toList (x := #[94]) h5]
    exact ⟨_, method_5 hn hc1 hc2 h⟩
  by_cases h6 : key.toList = [124]
  · rw [h6] at h
    rw [eq_of_toList (x := #[124]) h6]
    exact ⟨_, method_6 hn hc1 hc2 h⟩
  by_cases h7 : key.toList = [36]
  · rw [h7] at h
    rw [eq_of_toList (x := #[36]) h7]
    exact ⟨_, method_7 hn hc1 hc2 h⟩
  by_cases h8 : key.toList = [119]
  · rw [h8] at h
    rw [eq_of_toList (x := #[119]) h8]
    exact ⟨_, method_8 hn hc1 hc2 h⟩
  by_cases h9 : key.toList = [101]
  · rw [h9] at h
    rw [eq_of_toList (x := #[101]) h9]
    exact ⟨_, method_9 hn hc1 hc2 h⟩
  by_cases h10 : key.toList = [98]
  · rw [h10] at h
    rw [eq_of_toList (x := #[98]) h10]
    exact ⟨_, method_10 hn hc1 hc2 h⟩
  by_cases h11 : key.toList = [71]
  · rw [h11] at h
    rw [eq_of_toList (x := #[71]) h11]
    exact ⟨_, method_11 hn hc1 hc2 h⟩
  by_cases h12 : key.toList = [103, 103]
  · rw [h12] at h
    rw [eq_of_toList (x := #[103, 103]) h12]
    exact ⟨_, method_12 hn hc1 hc2 h⟩
  by_cases h13 : key.toList = [102]
  · rw [h13] at h
    rw [eq_of_toList (x := #[102]) h13]
    exact ⟨_, method_13 hn hc1 hc2 h⟩
  by_cases h14 : key.toList = [116]
  · rw [h14] at h
    rw [eq_of_toList (x := #[116]) h14]
    exact ⟨_, method_14 hn hc1 hc2 h⟩
  by_cases h15 : key.toList = [70]
  · rw [h15] at h
    rw [eq_of_toList (x := #[70]) h15]
    exact ⟨_, method_15 hn hc1 hc2 h⟩
  by_cases h16 : key.toList = [84]
  · rw [h16] at h
    rw [eq_of_toList (x := #[84]) h16]
    exact ⟨_, method_16 hn hc1 hc2 h⟩
  by_cases h17 : key.toList = [125]
  · rw [h17] at h
    rw [eq_of_toList (x := #[125]) h17]
    exact ⟨_, method_17 hn hc1 hc2 h⟩
  by_cases h18 : key.toList = [123]
  · rw [h18] at h
    rw [eq_of_toList (x := #[123]) h18]
    exact ⟨_, method_18 hn hc1 hc2 h⟩
  by_cases h19 : key.toList = [37]
  · rw [h19] at h
    rw [eq_of_toList (x := #[37]) h19]
    exact ⟨_, method_19 hn hc1 hc2 h⟩
  exact ⟨_, method_none h0 h1 h2 h3 h4 h5 h6 h7 h8 h9 h10 h11 h12 h13 h14 h15 h16 h17 h18 h19 h⟩
end
end Go.Proofs.Ytiibjehnlphabaa

end

section
namespace Go.Proofs.Ytiibjehnlphabaa
open Go.RowKit Go.Proofs.YtiibjehnlphabaaW.PrintWords Go.Proofs.YtiibjehnlphabaaW.PrintMore Q
set_option linter.unusedVariables false
set_option linter.unusedSimpArgs false
theorem rep15 : Array.replicate 15 undef = #[undef, undef, undef, undef, undef, undef, undef, undef, undef, undef, undef, undef, undef, undef, undef] := rfl
theorem mcatch_idle (p q : Addr) (w : World) :
    CallsD Try.prog 37 #[.pointer (some p), .pointer (some q)] .returning w fun e u' w' => e = .returned (.tuple #[]) ∧ u' = .returning ∧ w' = w := by
  refine callsD_of_wpS Try.func37 rfl fun c₀ cs hu => ?_
  apply wpS_seq
  apply wpS_region
  simp [wpOpsS, go_sem, recoverD, hu, Try.ntmps37, Exit.thenS, rep15]
  refine wpS_of_wp ?_
  go_wp2
  cases c₀
  simp_all [bodyPostS, results, Try.results37]
theorem massert (v : Value) (W : World) : (Instr.typeAssert (.iface 53 v) 20 53 true).run Try.prog W = .ok (.tuple #[v, .bool true]) W := by rfl
/-- Where the results lie. -/
structure Out (w : World) (g h : Nat) (x : Nat) (y z ok : Bool) : Prop where
  g_ : w.heap[g]? = some (.cells #[.int .i64 (x : Int), .bool y, .bool z] 25 (0, 0))
  h_ : w.heap[h]? = some (.cells #[.bool ok] 4 (0, 0))
theorem Out.facts {w : World} {g h x : Nat} {y z ok : Bool} (o : Out w g h x y z ok) :
    w.cell? ⟨g, 0, none⟩ = some (.int .i64 (x : Int)) ∧ w.cell? ⟨g, 1, none⟩ = some (.bool y) ∧ w.cell? ⟨g, 2, none⟩ = some (.bool z) ∧ w.cell? ⟨h, 0, none⟩ = some (.bool ok) ∧ (∀ i, w.frozen? ⟨g, i, none⟩ = false) ∧ (∀ i, w.frozen? ⟨h, i, none⟩ = false) ∧ g < w.heap.size ∧ h < w.heap.size := by
  have h1 := o.g_
  have h2 := o.h_
  refine ⟨?_, ?_, ?_, ?_, fun i => ?_, fun i => ?_, ?_, ?_⟩
  · simp [World.cell?, h1]
  · simp [World.cell?, h1]
  · simp [World.cell?, h1]
  · simp [World.cell?, h2]
  · simp [World.frozen?, h1]
  · simp [World.frozen?, h2]
  · rcases Nat.lt_or_ge g w.heap.size with hlt | hge
    · exact hlt
    · rw [Array.getElem?_eq_none hge] at h1; cases h1
  · rcases Nat.lt_or_ge h w.heap.size with hlt | hge
    · exact hlt
    · rw [Array.getElem?_eq_none hge] at h2; cases h2
theorem mcatch_panicking (g h : Nat) (w : World) (o : Out w g h 0 false false false) (hgh : ¬ g = h) :
    CallsD Try.prog 37 #[.pointer (some ⟨g, 0, none⟩), .pointer (some ⟨h, 0, none⟩)] (.panicking thrown) w fun e u' w' =>
      e = .returned (.tuple #[]) ∧ u' = .panicking [{ v := .iface 53 (.agg #[]), recovered := true }] ∧ w' = ((laidV w g 0 false false).setCell ⟨h, 0, none⟩ (.bool false)).alloc (.cells #[] 53) := by
  unfold thrown
  have hta := massert
  obtain ⟨a0, a1, a2, a3, a4, a5, a6, a7⟩ := o.facts
  have b0 := (World.cell?_alloc_past (.cells #[] 53) g 0 a6).trans a0
  have b1 := (World.cell?_alloc_past (.cells #[] 53) g 1 a6).trans a1
  have b2 := (World.cell?_alloc_past (.cells #[] 53) g 2 a6).trans a2
  have b3 := (World.cell?_alloc_past (.cells #[] 53) h 0 a7).trans a3
  have b4 := (World.frozen?_alloc_past (.cells #[] 53) g 0 a6).trans (a4 0)
  have b5 := (World.frozen?_alloc_past (.cells #[] 53) g 1 a6).trans (a4 1)
  have b6 := (World.frozen?_alloc_past (.cells #[] 53) g 2 a6).trans (a4 2)
  have b7 := (World.frozen?_alloc_past (.cells #[] 53) h 0 a7).trans (a5 0)
  refine callsD_of_wpS Try.func37 rfl fun c₀ cs hu => ?_
  apply wpS_seq
  apply wpS_region
  simp [wpOpsS, go_sem, recoverD, hu, Try.ntmps37, Exit.thenS, rep15]
  refine wpS_of_wp ?_
  go_wp2
  cases c₀
  simp_all [bodyPostS, results, Try.results37, laidV]
theorem Out.laid {w : World} {g h x : Nat} {y z ok : Bool} (o : Out w g h x y z ok) (hgh : ¬ g = h) (x' : Nat) (y' z' ok' : Bool) : Out ((laidV w g x' y' z').setCell ⟨h, 0, none⟩ (.bool ok')) g h x' y' z' ok' := by
  have h1 := o.g_
  have h2 := o.h_
  constructor
  · simp [laidV, World.setCell, Array.getElem?_modify, h1, hgh, Ne.symm (Ne.intro hgh)]
  · simp [laidV, World.setCell, Array.getElem?_modify, h2, hgh, Ne.symm (Ne.intro hgh)]
theorem Out.below {w w' : World} {g h x : Nat} {y z ok : Bool} (o : Out w g h x y z ok) (hb : Below w.heap.size w w') : Out w' g h x y z ok := by
  obtain ⟨_, _, _, _, _, _, a6, a7⟩ := o.facts
  exact ⟨(hb.block g a6).trans o.g_, (hb.block h a7).trans o.h_⟩
theorem Out.alloc {w : World} {g h x : Nat} {y z ok : Bool} (o : Out w g h x y z ok) (ob : Obj) : Out (w.alloc ob) g h x y z ok := o.below (below_alloc (Below.refl _ _) ob)
theorem Out.answer {w : World} {g h x : Nat} {y z ok : Bool} (o : Out w g h x y z ok) (tm : Array Value) (h2 : tm[8]? = some (.pointer (some ⟨g, 0, none⟩))) (h3 : tm[9]? = some (.pointer (some ⟨h, 0, none⟩))) :
    (results Try.f13 tm).run Try.prog w = .ok (.tuple #[goalV x y z, .bool ok]) w := by
  obtain ⟨a0, a1, a2, a3, a4, a5, a6, a7⟩ := o.facts
  have hu := Try.underlying25
  simp [results, Try.results13, go_sem, h2, h3, a0, a1, a2, a3, goalV]
theorem go_door_no (tm : Array Value) (g h : Nat) (w0 w : World) (h2 : tm[8]? = some (.pointer (some ⟨g, 0, none⟩))) (h3 : tm[9]? = some (.pointer (some ⟨h, 0, none⟩)))
    (o : Out w g h 0 false false false) (hb : Below w0.heap.size w0 w) (hg : w0.heap.size ≤ g) (hh : w0.heap.size ≤ h) (hgh : ¬ g = h) :
    Leaves Try.prog Try.f13 tm (fun e w' => e = .returned (.tuple #[goalV 0 false false, .bool false]) ∧ Below w0.heap.size w0 w')
      [{ target := .fn (.func 37) #[.pointer (some ⟨g, 0, none⟩), .pointer (some ⟨h, 0, none⟩)], args := #[] }] (.panicking thrown) w := by
  refine leaves_cons (f := 37) (args := #[.pointer (some ⟨g, 0, none⟩), .pointer (some ⟨h, 0, none⟩)]) (by simp) (by simp [go_sem]) ?_
  refine (mcatch_panicking g h w o hgh).mono ?_
  rintro e u' w'' ⟨rfl, rfl, rfl⟩
  have hbb : Below w0.heap.size w0 (((laidV w g 0 false false).setCell ⟨h, 0, none⟩ (.bool false)).alloc (.cells #[] 53)) :=
    below_alloc ((((hb.setCell (p := ⟨g, 0, none⟩) hg _).setCell (p := ⟨g, 1, none⟩) hg _).setCell (p := ⟨g, 2, none⟩) hg _).setCell (p := ⟨h, 0, none⟩) hh _) _
  exact ⟨_, ((o.laid hgh 0 false false false).alloc _).answer tm h2 h3, rfl, hbb⟩
theorem go_door_yes (tm : Array Value) (g h x : Nat) (y z ok : Bool) (w0 w : World) (h2 : tm[8]? = some (.pointer (some ⟨g, 0, none⟩))) (h3 : tm[9]? = some (.pointer (some ⟨h, 0, none⟩)))
    (o : Out w g h x y z ok) (hb : Below w0.heap.size w0 w) :
    Leaves Try.prog Try.f13 tm (fun e w' => e = .returned (.tuple #[goalV x y z, .bool ok]) ∧ Below w0.heap.size w0 w')
      [{ target := .fn (.func 37) #[.pointer (some ⟨g, 0, none⟩), .pointer (some ⟨h, 0, none⟩)], args := #[] }] .returning w := by
  refine leaves_cons (f := 37) (args := #[.pointer (some ⟨g, 0, none⟩), .pointer (some ⟨h, 0, none⟩)]) (by simp) (by simp [go_sem]) ?_
  refine (mcatch_idle _ _ w).mono ?_
  rintro e u' w'' ⟨rfl, rfl, rfl⟩
  exact ⟨_, o.answer tm h2 h3, rfl, hb⟩
section
variable {w : World} {g : Nat} {A : Option Addr} {c : Nat} {l : List Int} {i : Nat} {n : Nat} {op : Bool} {key : ByteArray} {A2 : Option Addr} {c2 : Nat} {a : List Int} {cn : Int}
/-- What move.Go answers. -/
def goV : Option Gl → Value
  | some (x, y, z) => .tuple #[goalV x y z, .bool true]
  | none => .tuple #[goalV 0 false false, .bool false]
/-- What stands between Go's calls: the parameter's box, the results. -/
structure Gs (w0 w : World) (S1 S2 : Prop) (key : ByteArray) (A2 : Option Addr) (n2 c2 : Nat) (cn : Int) : Prop where
  sl : S1
  sa : S2
  b0 : w.cell? ⟨w0.heap.size, 0, none⟩ = some (.string key)
  b1 : w.cell? ⟨w0.heap.size, 1, none⟩ = some (.slice A2 n2 c2)
  b2 : w.cell? ⟨w0.heap.size, 2, none⟩ = some (.int .i64 cn)
  out : Out w (w0.heap.size + 1) (w0.heap.size + 2) 0 false false false
  bel : Below w0.heap.size w0 w
theorem Gs.begin_ (hS : Sl w A c l) (hA : Sl w A2 c2 a) (key : ByteArray) (cn : Int) :
    Gs w (((w.alloc (Obj.cells #[Value.string key, Value.slice A2 a.length c2, Value.int IntKind.i64 cn] 29)).alloc (Obj.cells #[Value.int IntKind.i64 0, Value.bool false, Value.bool false] 25)).alloc (Obj.cells #[Value.bool false] 4))
      (Sl (((w.alloc (Obj.cells #[Value.string key, Value.slice A2 a.length c2, Value.int IntKind.i64 cn] 29)).alloc (Obj.cells #[Value.int IntKind.i64 0, Value.bool false, Value.bool false] 25)).alloc (Obj.cells #[Value.bool false] 4)) A c l)
      (Sl (((w.alloc (Obj.cells #[Value.string key, Value.slice A2 a.length c2, Value.int IntKind.i64 cn] 29)).alloc (Obj.cells #[Value.int IntKind.i64 0, Value.bool false, Value.bool false] 25)).alloc (Obj.cells #[Value.bool false] 4)) A2 c2 a) key A2 a.length c2 cn := by
  have hb : Below w.heap.size w (((w.alloc (Obj.cells #[Value.string key, Value.slice A2 a.length c2, Value.int IntKind.i64 cn] 29)).alloc (Obj.cells #[Value.int IntKind.i64 0, Value.bool false, Value.bool false] 25)).alloc (Obj.cells #[Value.bool false] 4)) :=
    below_alloc (below_alloc (below_alloc (Below.refl _ _) _) _) _
  refine ⟨hS.below hb, hA.below hb, by simp [go_sem], by simp [go_sem], by simp [go_sem], ⟨by unfold World.alloc; simp [Array.getElem?_push, Array.getElem_push], by unfold World.alloc; simp [Array.getElem?_push, Array.getElem_push]⟩, hb⟩
section
variable {w0 w1 w2 : World} {n2 : Nat}
theorem Gs.two (h : Gs w0 w (Sl w A c l) (Sl w A2 c2 a) key A2 a.length c2 cn) (hb : Below w.heap.size w w1) : Gs w0 w1 (Sl w1 A c l) (Sl w1 A2 c2 a) key A2 a.length c2 cn :=
  ⟨h.sl.below hb, h.sa.below hb, pw_cell_below hb h.b0, pw_cell_below hb h.b1, pw_cell_below hb h.b2, h.out.below hb, h.bel.trans (hb.mono h.bel.size)⟩
theorem Gs.step (h : Gs w0 w (Sl w A c l) (Sl w A2 c2 a) key A2 a.length c2 cn) (h1 : Below w.heap.size w w1) (h2 : Below w1.heap.size w1 w2) : Gs w0 w2 (Sl w2 A c l) (Sl w2 A2 c2 a) key A2 a.length c2 cn :=
  h.two (h1.trans (h2.mono h1.size))
end
set_option maxHeartbeats 1000000 in
set_option maxRecDepth 100000 in
theorem Go_calls (hS : Sl w A c l) (hA : Sl w A2 c2 a) (a1 : Int) (hc1 : -9223372036854775808 ≤ cn) (hc2 : cn ≤ 9223372036854775807) (o : Option Gl) (h : motion l (place l a1) key.toList a cn op = o) :
    Calls Try.prog 13 #[.slice A l.length c, .int .i64 a1, .agg #[.string key, .slice A2 a.length c2, .int .i64 cn], .bool op] w fun e w' => e = .returned (goV o) ∧ Below w.heap.size w w' := by
  obtain ⟨f, hf1, hf3, hf2⟩ := method_all (n := times cn) rfl hc1 hc2 o h
  have HF := Aside0.mk hf2
  have HF1 := Aside0.mk hf1
  clear hf2 hf1
  have hi := Aside0.mk (place_begins l a1)
  have HSl := Aside0.mk hS
  have HA := Aside0.mk hA
  have hmax : (if cn < 1 then (1 : Int) else cn) = ((times cn : Nat) : Int) := by unfold times; split <;> omega
  have hn1 : 1 ≤ times cn := by unfold times; omega
  have hn2 : ((times cn : Nat) : Int) ≤ 9223372036854775807 := by unfold times; omega
  clear hS hA h
  go_enter_defers Try.func13, Try.ntmps13
  go_wp2_with fail
  generalize hW : (((w.alloc (Obj.cells #[Value.string key, Value.slice A2 a.length c2, Value.int IntKind.i64 cn] 29)).alloc (Obj.cells #[Value.int IntKind.i64 0, Value.bool false, Value.bool false] 25)).alloc (Obj.cells #[Value.bool false] 4)) = W
  have HS : Aside0 (Gs w W (Sl W A c l) (Sl W A2 c2 a) key A2 a.length c2 cn) := ⟨hW ▸ Gs.begin_ HSl.out HA.out key cn⟩
  clear hW HSl HA
  go_region_held3 (fun w' => w'.cell? ⟨w.heap.size, 0, none⟩ = some (.string key) ∧ w'.cell? ⟨w.heap.size, 1, none⟩ = some (.slice A2 a.length c2) ∧ w'.cell? ⟨w.heap.size, 2, none⟩ = some (.int .i64 cn)) (first | exact ⟨HS.out.b0, HS.out.b1, HS.out.b2⟩ | exact ⟨(HS.out.two (below_drew (Below.refl _ _))).b0, (HS.out.two (below_drew (Below.refl _ _))).b1, (HS.out.two (below_drew (Below.refl _ _))).b2⟩ | exact ⟨(HS.out.two (below_alloc (Below.refl _ _) _)).b0, (HS.out.two (below_alloc (Below.refl _ _) _)).b1, (HS.out.two (below_alloc (Below.refl _ _) _)).b2⟩)
    (first | (go_at_call 38; refine (c_place (HS.out.two (below_drew (Below.refl _ _))).sl a1).mono ?_; rintro e w1 ⟨rfl, hd⟩; have HT := Aside0.mk (HS.out.step (below_drew (Below.refl _ _)) hd); clear hd HS; have HS := HT; clear HT))
  all_goals (
    have HT : Gs w (w1.alloc (Obj.cells #[Value.slice A l.length c, Value.int IntKind.i64 (place l a1 : Int), Value.int IntKind.i64 (times cn : Int), Value.bool op, Value.string key, Value.slice A2 a.length c2, Value.int IntKind.i64 cn] 57)) _ _ _ _ _ _ _ := HS.out.two (below_alloc (Below.refl _ _) _)
    have HK : Wk (w1.alloc (Obj.cells #[Value.slice A l.length c, Value.int IntKind.i64 (place l a1 : Int), Value.int IntKind.i64 (times cn : Int), Value.bool op, Value.string key, Value.slice A2 a.length c2, Value.int IntKind.i64 cn] 57)) w1.heap.size A c l (place l a1) (times cn) op key A2 c2 a cn :=
      ⟨by simp [go_sem], by simp [go_sem], by simp [go_sem], by simp [go_sem], by simp [go_sem], by simp [go_sem], by simp [go_sem], HT.sl, HT.sa, hi.out, hn1, hn2⟩
    generalize (w1.alloc (Obj.cells #[Value.slice A l.length c, Value.int IntKind.i64 (place l a1 : Int), Value.int IntKind.i64 (times cn : Int), Value.bool op, Value.string key, Value.slice A2 a.length c2, Value.int IntKind.i64 cn] 57)) = W2 at *
    clear HS
    have HS := Aside0.mk HT
    have HKK := Aside0.mk HK
    clear HT HK
    have q0 := HS.out.b0
    have q1 := HS.out.b1
    have q2 := HS.out.b2
    go_wp2_with fail
    refine (HF1.out _).mono ?_
    rintro e wx ⟨rfl, rfl⟩
    go_wp2_with fail
    refine (HF.out _ _ _ _ _ _ HKK.out).mono ?_
    rintro e w3 ⟨rfl, hd⟩
    have HT := Aside0.mk (HS.out.two hd)
    clear hd HS HKK q0 q1 q2
    cases o with
    | none =>
      simp only [endG]
      go_wp2_with fail
      exact go_door_no _ _ _ _ _ rfl rfl HT.out.out HT.out.bel (by omega) (by omega) (by omega)
    | some t =>
      obtain ⟨x, y, z⟩ := t
      simp only [endG, goalV]
      have HO := Aside0.mk (HT.out.out.laid (by omega) x y z true)
      have HB := HT.out.bel
      have hbb : Aside0 (Below w.heap.size w ((laidV w3 (w.heap.size + 1) x y z).setCell ⟨w.heap.size + 2, 0, none⟩ (.bool true))) :=
        ⟨(((HB.setCell (p := ⟨w.heap.size + 1, 0, none⟩) (by simp) _).setCell (p := ⟨w.heap.size + 1, 1, none⟩) (by simp) _).setCell (p := ⟨w.heap.size + 1, 2, none⟩) (by simp) _).setCell (p := ⟨w.heap.size + 2, 0, none⟩) (by simp) _⟩
      clear HB
      obtain ⟨r0, r1, r2, r3, r4, r5, r6, r7⟩ := HT.out.out.facts
      have r40 := r4 0
      have r41 := r4 1
      have r42 := r4 2
      have r50 := r5 0
      clear r4 r5
      go_wp2_with fail
      exact go_door_yes _ _ _ _ _ _ _ _ _ rfl rfl HO.out hbb.out)
end
end Go.Proofs.Ytiibjehnlphabaa

end

section
namespace Go.Proofs.Ytiibjehnlphabaa
open Go.RowKit Go.Proofs.YtiibjehnlphabaaW.PrintWords Go.Proofs.YtiibjehnlphabaaW.PrintMore Q
set_option linter.unusedVariables false
set_option linter.unusedSimpArgs false

theorem byte_fin {P : Int → Prop} (h : ∀ n : Fin 256, P (n.val : Int)) {c : Int} (h0 : 0 ≤ c) (h1 : c ≤ 255) : P c := by
  have := h ⟨c.toNat, by omega⟩
  rwa [show ((c.toNat : Nat) : Int) = c by omega] at this
theorem follows_eq {c : Int} (h0 : 0 ≤ c) (h1 : c ≤ 255) : escritoireref1_follows.f c = some (decide (128 ≤ c ∧ c < 192)) := by
  refine byte_fin (P := fun c => escritoireref1_follows.f c = some (decide (128 ≤ c ∧ c < 192))) ?_ h0 h1
  decide +kernel
theorem and63 {c : Int} (h0 : 128 ≤ c) (h1 : c < 192) : Go.bits .and .u8 c 63 = c - 128 := by
  refine byte_fin (P := fun c => 128 ≤ c → c < 192 → Go.bits .and .u8 c 63 = c - 128) ?_ (by omega) (by omega) h0 h1
  decide +kernel
theorem and31 {c : Int} (h0 : 192 ≤ c) (h1 : c < 224) : Go.bits .and .u8 c 31 = c - 192 := by
  refine byte_fin (P := fun c => 192 ≤ c → c < 224 → Go.bits .and .u8 c 31 = c - 192) ?_ (by omega) (by omega) h0 h1
  decide +kernel
theorem and15 {c : Int} (h0 : 224 ≤ c) (h1 : c < 240) : Go.bits .and .u8 c 15 = c - 224 := by
  refine byte_fin (P := fun c => 224 ≤ c → c < 240 → Go.bits .and .u8 c 15 = c - 224) ?_ (by omega) (by omega) h0 h1
  decide +kernel
theorem and7 {c : Int} (h0 : 240 ≤ c) (h1 : c < 248) : Go.bits .and .u8 c 7 = c - 240 := by
  refine byte_fin (P := fun c => 240 ≤ c → c < 248 → Go.bits .and .u8 c 7 = c - 240) ?_ (by omega) (by omega) h0 h1
  decide +kernel

section
variable {l : List Int} {i : Nat}
theorem rsev_step (ok : OkL l) {n j : Nat} (hj : 1 ≤ j) (hjn : j < n) (hn : n ≤ 4) (hin : i + n ≤ l.length) {x : Int} (hx0 : 0 ≤ x) (hx1 : x < 16777216) {r : Int × Int}
    (hr : 128 ≤ l.getD (i + j) 0 ∧ l.getD (i + j) 0 < 192 → Ev (fun k => escritoireref1_several.l0 k l (i : Int) (n : Int) (x * 64 + (l.getD (i + j) 0 - 128)) ((j + 1 : Nat) : Int)) r)
    (hr0 : ¬ (128 ≤ l.getD (i + j) 0 ∧ l.getD (i + j) 0 < 192) → r = (0, 0)) : Ev (fun k => escritoireref1_several.l0 k l (i : Int) (n : Int) x (j : Int)) r := by
  have hsz := ok.size
  have hb := ok.at_ (i := i + j) (by omega)
  refine Ev.step (fun k => rfl) ?_
  simp only [escritoireref1_several.l0]
  rw [w64 (n := (i : Int) + j) (by omega) (by omega), w64 (n := (j : Int) + 1) (by omega) (by omega)]
  refine Ev.pos (by omega) (Ev.pos (by omega) (Ev.pos (by omega) ?_))
  rw [show (i : Int) + (j : Int) = ((i + j : Nat) : Int) by omega, rd_nat, follows_eq hb.1 hb.2]
  simp only [Option.bind_some]
  by_cases hc : 128 ≤ l.getD (i + j) 0 ∧ l.getD (i + j) 0 < 192
  · refine Ev.pos (decide_eq_true hc) ?_
    rw [and63 hc.1 hc.2, w64 (n := l.getD (i + j) 0 - 128) (by omega) (by omega), w64 (n := x * 64) (by omega) (by omega), i64_or6 (by omega) (by omega) (by omega) (by omega) (by omega)]
    exact hr hc
  · refine Ev.neg (by simp only [decide_eq_true_eq]; exact hc) (Ev.is (Ev.now _) (hr0 hc).symm)
def leastOf : Nat → Int
  | 2 => 128
  | 3 => 2048
  | _ => 65536
theorem rsev_end {n : Nat} (h2 : 2 ≤ n) (h4 : n ≤ 4) {x : Int} (hx0 : 0 ≤ x) : Ev (fun k => escritoireref1_several.l0 k l (i : Int) (n : Int) x (n : Int)) (sevEnd (leastOf n) n (some x)) := by
  refine Ev.step (fun k => rfl) ?_
  simp only [escritoireref1_several.l0, Option.bind_some]
  refine Ev.neg (by omega) (Ev.pos (by omega) (Ev.pos (by simp; omega) ?_))
  have hl : rd ([0, 0, 128, 2048, 65536] : List Int) (n : Int) = leastOf n := by
    rcases (by omega : n = 2 ∨ n = 3 ∨ n = 4) with rfl | rfl | rfl <;> rfl
  rw [hl]
  simp only [sevEnd, sevMay, Bool.and_eq_true, Bool.or_eq_true, decide_eq_true_eq]
  by_cases a : x < leastOf n
  · exact Ev.pos a (Ev.is (Ev.now _) (by rw [if_neg (by omega)]))
  · refine Ev.neg a ?_
    by_cases b : x > 1114111
    · exact Ev.pos b (Ev.is (Ev.now _) (by rw [if_neg (by omega)]))
    · refine Ev.neg b ?_
      by_cases c : x ≥ 55296
      · refine Ev.pos c ?_
        by_cases d : x ≤ 57343
        · exact Ev.pos d (Ev.is (Ev.now _) (by rw [if_neg (by omega)]))
        · exact Ev.neg d (Ev.is (Ev.now _) (by rw [if_pos (by omega)]))
      · exact Ev.neg c (Ev.is (Ev.now _) (by rw [if_pos (by omega)]))
theorem rsev_loop (ok : OkL l) {n : Nat} (h2 : 2 ≤ n) (h4 : n ≤ 4) (hin : i + n ≤ l.length) : ∀ (m j : Nat), j + m = n → 1 ≤ j → ∀ x : Int, 0 ≤ x → x < 32 * 64 ^ (j - 1) →
    Ev (fun k => escritoireref1_several.l0 k l (i : Int) (n : Int) x (j : Int)) (sevEnd (leastOf n) n (sevTail x ((l.drop (i + j)).take m)))
  | 0, j, hjm, hj, x, hx0, hx1 => by
    obtain rfl : j = n := by omega
    simp only [List.take_zero, sevTail, List.foldlM_nil]
    exact rsev_end h2 h4 hx0
  | m + 1, j, hjm, hj, x, hx0, hx1 => by
    have hp : (64 : Int) ^ (j - 1) ≤ 64 ^ 3 := by
      have := Nat.pow_le_pow_right (n := 64) (by omega) (show j - 1 ≤ 3 by omega)
      exact_mod_cast this
    have hd : l.drop (i + j) = l.getD (i + j) 0 :: l.drop (i + (j + 1)) := by
      rw [List.drop_eq_getElem_cons (by omega), List.getD_eq_getElem?_getD, List.getElem?_eq_getElem (by omega)]
      rfl
    rw [hd, List.take_succ_cons]
    have ht : sevTail x (l.getD (i + j) 0 :: (l.drop (i + (j + 1))).take m) = (sevStep x (l.getD (i + j) 0)).bind fun y => sevTail y ((l.drop (i + (j + 1))).take m) := by
      simp only [sevTail, List.foldlM_cons]
      rfl
    rw [ht]
    have hb := ok.at_ (i := i + j) (by omega)
    refine rsev_step ok hj (by omega) h4 hin hx0 (by omega) (fun hc => ?_) (fun hc => ?_)
    · simp only [sevStep, if_pos hc, Option.bind_some]
      have hpow : (64 : Int) ^ (j + 1 - 1) = 64 ^ (j - 1) * 64 := by
        rw [← Int.pow_succ]
        congr 1
        omega
      exact rsev_loop ok h2 h4 hin m (j + 1) (by omega) (by omega) _ (by omega) (by rw [hpow]; omega)
    · simp only [sevStep, if_neg hc, Option.bind_none, sevEnd]
theorem rj2_none {x8 : Int} : Ev (fun k => escritoireref1_several.j2 k l (i : Int) 0 x8) ((0, 0) : Int × Int) := by
  refine Ev.step (fun k => rfl) ?_
  simp only [escritoireref1_several.j2]
  refine Ev.pos trivial (Ev.step (fun k => rfl) ?_)
  simp only [escritoireref1_several.j3]
  exact Ev.pos trivial (Ev.now _)
theorem rj2_some (ok : OkL l) {n : Nat} (h2 : 2 ≤ n) (h4 : n ≤ 4) (hi : i < l.length) {x : Int} (hx0 : 0 ≤ x) (hx1 : x < 32) {r : Int × Int}
    (hr : r = if n - 1 ≤ (l.drop (i + 1)).length then sevEnd (leastOf n) n (sevTail x ((l.drop (i + 1)).take (n - 1))) else (0, 0)) : Ev (fun k => escritoireref1_several.j2 k l (i : Int) (n : Int) x) r := by
  have hsz := ok.size
  subst hr
  rw [List.length_drop]
  refine Ev.step (fun k => rfl) ?_
  simp only [escritoireref1_several.j2]
  rw [w64 (n := (l.length : Int) - n) (by omega) (by omega)]
  refine Ev.neg (by omega) (Ev.step (fun k => rfl) ?_)
  simp only [escritoireref1_several.j3]
  by_cases h : i + n ≤ l.length
  · rw [if_pos (by omega)]
    refine Ev.neg (by simp; omega) ?_
    exact rsev_loop ok h2 h4 h (n - 1) 1 (by omega) (by omega) x hx0 (by simpa using hx1)
  · rw [if_neg (by omega)]
    exact Ev.pos (by simp; omega) (Ev.now _)
theorem sevTail_ge : ∀ (l : List Int) (r x : Int), 0 ≤ r → sevTail r l = some x → r * 64 ^ l.length ≤ x
  | [], r, x, h0, h => by
    simp only [sevTail, List.foldlM_nil] at h
    cases h
    simp
  | c :: l, r, x, h0, h => by
    simp only [sevTail, List.foldlM_cons] at h
    cases hs : sevStep r c with
    | none => simp [hs] at h
    | some y =>
      simp only [hs, Option.bind_eq_bind, Option.bind_some] at h
      have hy : r * 64 ≤ y := by
        unfold sevStep at hs
        split at hs
        · cases hs; omega
        · cases hs
      have ih := sevTail_ge l y x (by omega) h
      rw [List.length_cons, Int.pow_succ]
      have hp : (0 : Int) ≤ 64 ^ l.length := Int.pow_nonneg (by decide)
      have := Int.mul_le_mul_of_nonneg_right hy hp
      rw [Int.mul_comm (64 ^ l.length) 64, ← Int.mul_assoc]
      omega
theorem rsev_ev (ok : OkL l) (hi : i < l.length) : Ev (fun k => escritoireref1_several.f k l (i : Int)) (sevOf (l.drop i)) := by
  have hb := ok.at_ hi
  have hsz := ok.size
  simp only [escritoireref1_several.f]
  rw [rd_nat]
  refine Ev.pos (by omega) (Ev.pos (by omega) ?_)
  have hd : l.drop i = l.getD i 0 :: l.drop (i + 1) := by
    rw [List.drop_eq_getElem_cons hi, List.getD_eq_getElem?_getD, List.getElem?_eq_getElem hi]
    rfl
  rw [hd]
  generalize l.getD i 0 = c at *
  have j1f : ¬ c ≥ 240 → Ev (fun k => escritoireref1_several.j1 k l (i : Int) c 0 0 false) ((0, 0) : Int × Int) := fun h => by
    refine Ev.step (fun k => rfl) ?_
    simp only [escritoireref1_several.j1]
    exact Ev.neg (by simp) (Ev.neg h rj2_none)
  simp only [sevOf]
  by_cases h194 : c ≥ 194
  · refine Ev.pos h194 (Ev.step (fun k => rfl) ?_)
    simp only [escritoireref1_several.j0]
    by_cases h223 : c ≤ 223
    · rw [if_pos (by omega)]
      refine Ev.pos (decide_eq_true h223) ?_
      rw [and31 (by omega) (by omega), w64 (by omega) (by omega)]
      exact rj2_some ok (n := 2) (by omega) (by omega) hi (by omega) (by omega) rfl
    · rw [if_neg (by omega)]
      refine Ev.neg (by simp; omega) (Ev.pos (by omega) (Ev.step (fun k => rfl) ?_))
      simp only [escritoireref1_several.j1]
      by_cases h239 : c ≤ 239
      · rw [if_pos (by omega)]
        refine Ev.pos (decide_eq_true h239) ?_
        rw [and15 (by omega) (by omega), w64 (by omega) (by omega)]
        exact rj2_some ok (n := 3) (by omega) (by omega) hi (by omega) (by omega) rfl
      · rw [if_neg (by omega)]
        refine Ev.neg (by simp; omega) (Ev.pos (by omega) ?_)
        by_cases h244 : c ≤ 244
        · rw [if_pos (by omega)]
          refine Ev.pos h244 ?_
          rw [and7 (by omega) (by omega), w64 (by omega) (by omega)]
          exact rj2_some ok (n := 4) (by omega) (by omega) hi (by omega) (by omega) rfl
        · refine Ev.neg h244 (Ev.is rj2_none ?_)
          by_cases h247 : c < 248
          · rw [if_pos (by omega)]
            split
            · rename_i h3
              cases ht : sevTail (c - 240) ((l.drop (i + 1)).take 3) with
              | none => rfl
              | some x =>
                have := sevTail_ge _ _ _ (by omega) ht
                rw [List.length_take, Nat.min_eq_left h3] at this
                simp only [sevEnd, sevMay, Bool.and_eq_true, Bool.or_eq_true, decide_eq_true_eq]
                rw [if_neg (by omega)]
            · rfl
          · rw [if_neg (by omega)]
  · refine Ev.neg h194 (Ev.step (fun k => rfl) ?_)
    simp only [escritoireref1_several.j0]
    refine Ev.neg (by simp) (Ev.neg (by omega) (Ev.is (j1f (by omega)) ?_))
    by_cases h192 : 192 ≤ c
    · rw [if_pos (by omega)]
      split
      · rename_i h1
        cases ht : sevTail (c - 192) ((l.drop (i + 1)).take 1) with
        | none => rfl
        | some x =>
          have hx : x < 128 := by
            obtain ⟨y, t, hyt⟩ : ∃ y t, l.drop (i + 1) = y :: t := by
              cases hh : l.drop (i + 1) with
              | nil => rw [hh] at h1; simp at h1
              | cons y t => exact ⟨y, t, rfl⟩
            rw [hyt, List.take_succ_cons, List.take_zero] at ht
            simp only [sevTail, List.foldlM_cons, List.foldlM_nil, sevStep] at ht
            split at ht
            · cases ht; omega
            · cases ht
          simp only [sevEnd]
          rw [if_neg (by omega)]
      · rfl
    · rw [if_neg (by omega), if_neg (by omega), if_neg (by omega)]
end
end Go.Proofs.Ytiibjehnlphabaa

end
