/- The row of law MoveGoes of chapter 23 holds, for every input that the row names (part 0). Conditions: none. A program joined it out of texts of this work; the words (namespaces YtiibjehnlphabaaW..) and the functions named X.f with their contracts X.calls were first written by the print tool of the kit, the functions in a copy of it that takes given contracts; what the theorem does not use is struck. -/
import Derived.Below
import Derived.Lib.Bytes
section
namespace Go.Proofs.Ytiibjehnlphabaa

def sevStep (r c : Int) : Option Int := if 128 ≤ c ∧ c < 192 then some (r * 64 + (c - 128)) else none
def sevTail (r : Int) (l : List Int) : Option Int := l.foldlM sevStep r
def sevMay (r : Int) : Bool := (0 ≤ r && r ≤ 1114111) && (r < 55296 || r > 57343)
def sevEnd (least n : Int) : Option Int → Int × Int
  | some r => if least ≤ r ∧ sevMay r = true then (r, n) else (0, 0)
  | none => (0, 0)
def sevOf : List Int → Int × Int
  | [] => (0, 0)
  | c :: l =>
    if 192 ≤ c ∧ c < 224 then (if 1 ≤ l.length then sevEnd 128 2 (sevTail (c - 192) (l.take 1)) else (0, 0))
    else if 224 ≤ c ∧ c < 240 then (if 2 ≤ l.length then sevEnd 2048 3 (sevTail (c - 224) (l.take 2)) else (0, 0))
    else if 240 ≤ c ∧ c < 248 then (if 3 ≤ l.length then sevEnd 65536 4 (sevTail (c - 240) (l.take 3)) else (0, 0))
    else (0, 0)
def byteB (x : Int) : Bool := 0 ≤ x && x ≤ 255
def idxOf : List Int → Int → Int
  | [], _ => -1
  | b :: l, c => if b = c then 0 else if idxOf l c = -1 then -1 else idxOf l c + 1

def sev (l : List Int) (i : Nat) : Nat := (sevOf (l.drop i)).2.toNat
def sz (l : List Int) (i : Nat) : Nat := if i < l.length then (if 0 < sev l i then sev l i else 1) else 0
def rn (l : List Int) (i : Nat) : Int := if i < l.length then (if 0 < sev l i then (sevOf (l.drop i)).1 else if l.getD i 0 < 128 then l.getD i 0 else -1) else 0
def cls (r : Int) : Int :=
  if r = 9 ∨ r = 10 ∨ r = 13 ∨ r = 32 then 0
  else if (97 ≤ r ∧ r ≤ 122) ∨ (65 ≤ r ∧ r ≤ 90) ∨ (48 ≤ r ∧ r ≤ 57) ∨ r = 95 ∨ 127 < r then 1 else 2
def kls (l : List Int) (i : Nat) : Int := cls (rn l i)
def lastSz (l : List Int) (i : Nat) : Nat :=
  if i < 1 ∨ l.length < i then 0
  else if 2 ≤ i ∧ sev l (i - 2) = 2 then 2 else if 3 ≤ i ∧ sev l (i - 3) = 3 then 3 else if 4 ≤ i ∧ sev l (i - 4) = 4 then 4 else 1
def begins (l : List Int) (i : Nat) : Bool :=
  decide (i ≤ l.length) && (decide (i < 1) || decide (sev l (i - 1) ≤ 1)) && (decide (i < 2) || decide (sev l (i - 2) ≤ 2)) && (decide (i < 3) || decide (sev l (i - 3) ≤ 3))
def on (l : List Int) (i : Nat) : Nat := i + sz l i
def goOn (p : Nat → Bool) (l : List Int) : Nat → Nat → Nat
  | 0, i => i
  | f + 1, i => if i < l.length ∧ p i = true then goOn p l f (on l i) else i
def whileOn (p : Nat → Bool) (l : List Int) (i : Nat) : Nat := goOn p l (l.length - i) i
def cnt (l : List Int) : Nat → Nat → Nat
  | 0, _ => 0
  | f + 1, i => if i < l.length then cnt l f (on l i) + 1 else 0
def count (l : List Int) : Nat := cnt l l.length 0

def placeN (l : List Int) : Nat → Nat
  | 0 => 0
  | n + 1 => if begins l (n + 1) = true then n + 1 else placeN l n
def place (l : List Int) (at_ : Int) : Nat := placeN l (min at_.toNat l.length)
def start (l : List Int) : Nat → Nat
  | 0 => 0
  | n + 1 => if l.getD n 0 = 10 then n + 1 else start l n
def tillNl (l : List Int) : Nat := (l.takeWhile (· != 10)).length
def fin (l : List Int) (i : Nat) : Nat := i + tillNl (l.drop i)
def rest (l : List Int) (i : Nat) : Nat := if i = fin l i ∧ start l i < i then i - lastSz l i else i
def first (l : List Int) (i : Nat) : Nat :=
  let q := whileOn (fun j => decide (j < fin l i) && decide (kls l j = 0)) l (start l i)
  if q < fin l i then q else rest l (fin l i)
def column (l : List Int) (i : Nat) : Nat := count ((l.take i).drop (start l i))
def along (l : List Int) (to : Nat) : Nat → Nat → Nat
  | 0, i => i
  | n + 1, i => if i < to then along l to n (on l i) else i
def colAt (l : List Int) (i col : Nat) : Nat := along l (fin l i) col (start l i)

def below (l : List Int) : Nat → Nat → Option Nat
  | 0, i => some (start l i)
  | n + 1, i => if fin l i < l.length then below l n (fin l i + 1) else none
def aboveN (l : List Int) : Nat → Nat → Option Nat
  | 0, i => some i
  | n + 1, i => if 0 < i then aboveN l n (start l (i - 1)) else none
def above (l : List Int) (n i : Nat) : Option Nat := aboveN l n (start l i)
def lefts (l : List Int) (from_ : Nat) : Nat → Nat → Nat
  | 0, i => i
  | n + 1, i => if from_ < i then lefts l from_ n (i - lastSz l i) else i
def run (l : List Int) (i : Nat) (c : Int) : Nat := whileOn (fun j => decide (kls l j = c)) l i
def word (l : List Int) (i : Nat) (stop : Bool) : Nat :=
  whileOn (fun j => decide (kls l j = 0) && !(stop && decide (l.getD j 0 = 10) && decide (i < j))) l (if kls l i ≠ 0 then run l i (kls l i) else i)
def wordsN (l : List Int) (op : Bool) : Nat → Nat → Nat
  | 0, i => i
  | n + 1, i => if i < l.length then wordsN l op n (word l i (op && decide (n = 0))) else i
def endsN (l : List Int) : Nat → Nat → Option Nat
  | 0, i => some i
  | n + 1, i =>
    if i < l.length then
      (let j := run l (on l i) 0
       if j < l.length then (let t := run l j (kls l j); endsN l n (t - lastSz l t)) else none)
    else none
def goBack (p : Nat → Bool) (l : List Int) : Nat → Nat → Nat
  | 0, i => i
  | f + 1, i => if 0 < i ∧ p i = true then goBack p l f (i - lastSz l i) else i
def back (l : List Int) (i : Nat) : Nat :=
  let j := goBack (fun j => decide (kls l j = 0)) l i (i - lastSz l i)
  if kls l j ≠ 0 then goBack (fun q => decide (kls l (q - lastSz l q) = kls l j)) l j j else j
def backsN (l : List Int) : Nat → Nat → Nat
  | 0, i => i
  | n + 1, i => if 0 < i then backsN l n (back l i) else i
def lineN (l : List Int) : Nat → Nat → Nat
  | 0, i => i
  | n + 1, i => if fin l i < l.length then lineN l n (fin l i + 1) else i
def one (a : List Int) : Bool := decide (0 < sz a 0) && decide (sz a 0 = a.length)
def isAt (l a : List Int) (i : Nat) : Bool := decide ((l.drop i).take (sz l i) = a)
def aheadN (l a : List Int) (to : Nat) : Nat → Nat → Nat → Option Nat
  | 0, _, _ => none
  | f + 1, n, i =>
    if i < to then
      (let j := on l i
       if j < to ∧ isAt l a j = true then (if n = 1 then some j else aheadN l a to f (n - 1) j) else aheadN l a to f n j)
    else none
def ahead (l a : List Int) (n i : Nat) : Option Nat := if one a = true then aheadN l a (fin l i) l.length n i else none
def behindN (l a : List Int) (from_ : Nat) : Nat → Nat → Nat → Option Nat
  | 0, _, _ => none
  | f + 1, n, i =>
    if from_ < i then
      (let j := i - lastSz l i
       if isAt l a j = true then (if n = 1 then some j else behindN l a from_ f (n - 1) j) else behindN l a from_ f n j)
    else none
def behind (l a : List Int) (n i : Nat) : Option Nat := if one a = true then behindN l a (start l i) l.length n i else none
def emptyDown (l : List Int) : Nat → Nat → Nat
  | 0, i => i
  | f + 1, i => if i < l.length then (if fin l (i + 1) = i + 1 then i + 1 else emptyDown l f (fin l (i + 1))) else i
def paraN (l : List Int) : Nat → Nat → Nat
  | 0, i => i
  | n + 1, i => if i < l.length then paraN l n (emptyDown l l.length (fin l i)) else i
def emptyUp (l : List Int) : Nat → Nat → Nat
  | 0, i => i
  | f + 1, i => if 0 < i then (if fin l (start l (i - 1)) = start l (i - 1) then start l (i - 1) else emptyUp l f (start l (i - 1))) else i
def paraBackN (l : List Int) : Nat → Nat → Nat
  | 0, i => i
  | n + 1, i => if 0 < i then paraBackN l n (emptyUp l l.length (start l i)) else i
def opens (c : Int) : Int := idxOf [40, 91, 123] c
def closes (c : Int) : Int := idxOf [41, 93, 125] c
def isBracket (c : Int) : Bool := decide (c = 40 ∨ c = 91 ∨ c = 123 ∨ c = 41 ∨ c = 93 ∨ c = 125)
def bracketIn : List Int → Option Nat
  | [] => none
  | c :: l => if isBracket c = true then some 0 else (bracketIn l).map (· + 1)
def deepF (l : List Int) (o c : Int) : Nat → Int → Nat → Option Nat
  | 0, _, _ => none
  | f + 1, d, i =>
    if i < l.length then
      (let d' := if l.getD i 0 = o then d + 1 else if l.getD i 0 = c then d - 1 else d
       if d' = 0 then some i else deepF l o c f d' (i + 1))
    else none
def deepB (l : List Int) (o c : Int) : Nat → Int → Option Nat
  | 0, d => let d' := if l.getD 0 0 = o then d - 1 else if l.getD 0 0 = c then d + 1 else d
            if d' = 0 then some 0 else none
  | i + 1, d => let d' := if l.getD (i + 1) 0 = o then d - 1 else if l.getD (i + 1) 0 = c then d + 1 else d
                if d' = 0 then some (i + 1) else deepB l o c i d'
def pair (l : List Int) (i : Nat) : Option Nat :=
  (bracketIn ((l.take (fin l i)).drop i)).bind fun j =>
    let c := l.getD (i + j) 0
    if 0 ≤ opens c then deepF l c (if c = 40 then 41 else c + 2) l.length 0 (i + j)
    else deepB l (if c = 41 then 40 else c - 2) c (i + j) 0

abbrev Gl := Nat × Bool × Bool
def plain_ (i : Nat) : Gl := (i, false, false)
def incl (i : Nat) : Gl := (i, true, false)
def byLn (i : Nat) : Gl := (i, false, true)
def times (c : Int) : Nat := (max c 1).toNat
def motion (l : List Int) (i : Nat) (key : List UInt8) (a : List Int) (c : Int) (op : Bool) : Option Gl :=
  let n := times c
  if key = [104] then (if start l i < i then some (plain_ (lefts l (start l i) n i)) else none)
  else if key = [108] then
    (let to := if op then fin l i else rest l (fin l i)
     if i < to then some (plain_ (along l to n i)) else none)
  else if key = [106] then (below l n i).map fun p => byLn (rest l (colAt l p (column l i)))
  else if key = [107] then (above l n i).map fun p => byLn (rest l (colAt l p (column l i)))
  else if key = [48] then some (plain_ (start l i))
  else if key = [94] then some (plain_ (first l i))
  else if key = [124] then some (plain_ (rest l (colAt l i (n - 1))))
  else if key = [36] then (below l (n - 1) i).map fun p => incl (rest l (fin l p))
  else if key = [119] then
    (if i < l.length then
      (let p := wordsN l op n i
       if op then some (plain_ p) else if rest l p = i then none else some (plain_ (rest l p)))
     else none)
  else if key = [101] then (endsN l n i).map incl
  else if key = [98] then (if 0 < i then some (plain_ (backsN l n i)) else none)
  else if key = [71] then some (byLn (first l (if c < 1 then l.length else lineN l (c.toNat - 1) 0)))
  else if key = [103, 103] then some (byLn (first l (lineN l (c.toNat - 1) 0)))
  else if key = [102] then (ahead l a n i).map incl
  else if key = [116] then (ahead l a n i).map fun p => incl (p - lastSz l p)
  else if key = [70] then (behind l a n i).map plain_
  else if key = [84] then (behind l a n i).map fun p => plain_ (on l p)
  else if key = [125] then
    (let p := if op then paraN l n i else rest l (paraN l n i)
     if p = i then none else some (plain_ p))
  else if key = [123] then (if paraBackN l n i = i then none else some (plain_ (paraBackN l n i)))
  else if key = [37] then (pair l i).map incl
  else none
end Go.Proofs.Ytiibjehnlphabaa

end

section
namespace Go.Proofs.Ytiibjehnlphabaa
set_option linter.unusedVariables false
set_option linter.unusedSimpArgs false

theorem sevEnd_len (least n : Int) (o : Option Int) : (sevEnd least n o).2 = 0 ∨ (sevEnd least n o).2 = n := by
  cases o with
  | none => exact .inl rfl
  | some r =>
    simp only [sevEnd]
    split
    · exact .inr rfl
    · exact .inl rfl
theorem sevOf_len (l : List Int) : (sevOf l).2 = 0 ∨ (2 ≤ (sevOf l).2 ∧ (sevOf l).2 ≤ 4 ∧ (sevOf l).2 ≤ l.length) := by
  cases l with
  | nil => exact .inl rfl
  | cons c l =>
    simp only [sevOf, List.length_cons]
    split
    · split
      · rcases sevEnd_len 128 2 (sevTail (c - 192) (l.take 1)) with h | h
        · exact .inl h
        · exact .inr ⟨by omega, by omega, by omega⟩
      · exact .inl rfl
    · split
      · split
        · rcases sevEnd_len 2048 3 (sevTail (c - 224) (l.take 2)) with h | h
          · exact .inl h
          · exact .inr ⟨by omega, by omega, by omega⟩
        · exact .inl rfl
      · split
        · split
          · rcases sevEnd_len 65536 4 (sevTail (c - 240) (l.take 3)) with h | h
            · exact .inl h
            · exact .inr ⟨by omega, by omega, by omega⟩
          · exact .inl rfl
        · exact .inl rfl
theorem sevOf_nonneg (l : List Int) : 0 ≤ (sevOf l).2 := by rcases sevOf_len l with h | h <;> omega
theorem sev_cast (l : List Int) (i : Nat) : ((sev l i : Nat) : Int) = (sevOf (l.drop i)).2 := by
  unfold sev
  have := sevOf_nonneg (l.drop i)
  omega
theorem sev_len (l : List Int) (i : Nat) : sev l i = 0 ∨ (2 ≤ sev l i ∧ sev l i ≤ 4 ∧ i + sev l i ≤ l.length) := by
  have h := sevOf_len (l.drop i)
  have hc := sev_cast l i
  rw [List.length_drop] at h
  rcases h with h | h
  · left; omega
  · right
    by_cases hi : i ≤ l.length <;> omega
theorem sz_pos {l : List Int} {i : Nat} (h : i < l.length) : 1 ≤ sz l i ∧ sz l i ≤ 4 ∧ i + sz l i ≤ l.length := by
  unfold sz
  rw [if_pos h]
  have := sev_len l i
  split <;> omega
theorem sz_out {l : List Int} {i : Nat} (h : ¬ i < l.length) : sz l i = 0 := by unfold sz; rw [if_neg h]
theorem on_gt {l : List Int} {i : Nat} (h : i < l.length) : i < on l i ∧ on l i ≤ l.length ∧ on l i ≤ i + 4 := by
  have := sz_pos h
  unfold on
  omega
theorem on_out {l : List Int} {i : Nat} (h : ¬ i < l.length) : on l i = i := by unfold on; rw [sz_out h]; rfl
theorem on_le {l : List Int} {i : Nat} (h : i ≤ l.length) : i ≤ on l i ∧ on l i ≤ l.length := by
  by_cases hi : i < l.length
  · have := on_gt hi; omega
  · rw [on_out hi]; omega
theorem lastSz_pos {l : List Int} {i : Nat} (h1 : 1 ≤ i) (h2 : i ≤ l.length) : 1 ≤ lastSz l i ∧ lastSz l i ≤ 4 ∧ lastSz l i ≤ i := by
  unfold lastSz
  rw [if_neg (by omega)]
  split
  · omega
  · split
    · omega
    · split <;> omega

theorem goOn_more (p : Nat → Bool) (l : List Int) : ∀ (f f' i : Nat), l.length - i ≤ f → l.length - i ≤ f' → goOn p l f i = goOn p l f' i
  | 0, 0, _, _, _ => rfl
  | 0, f' + 1, i, h, _ => by
    simp only [goOn]
    rw [if_neg (by omega)]
  | f + 1, 0, i, _, h => by
    simp only [goOn]
    rw [if_neg (by omega)]
  | f + 1, f' + 1, i, h, h' => by
    simp only [goOn]
    by_cases hc : i < l.length ∧ p i = true
    · rw [if_pos hc, if_pos hc]
      have := on_gt hc.1
      exact goOn_more p l f f' (on l i) (by omega) (by omega)
    · rw [if_neg hc, if_neg hc]
theorem whileOn_eq (p : Nat → Bool) (l : List Int) (i : Nat) : whileOn p l i = if i < l.length ∧ p i = true then whileOn p l (on l i) else i := by
  unfold whileOn
  by_cases hc : i < l.length ∧ p i = true
  · rw [if_pos hc]
    obtain ⟨n, hn⟩ : ∃ n, l.length - i = n + 1 := ⟨l.length - i - 1, by omega⟩
    have := on_gt hc.1
    rw [hn]
    simp only [goOn]
    rw [if_pos hc]
    exact goOn_more p l _ _ _ (by omega) (by omega)
  · rw [if_neg hc]
    cases h : l.length - i with
    | zero => rfl
    | succ n => simp only [goOn]; rw [if_neg hc]
theorem whileOn_pos {p : Nat → Bool} {l : List Int} {i : Nat} (h : i < l.length) (hp : p i = true) : whileOn p l i = whileOn p l (on l i) := by
  rw [whileOn_eq, if_pos ⟨h, hp⟩]
theorem whileOn_neg {p : Nat → Bool} {l : List Int} {i : Nat} (h : ¬ (i < l.length ∧ p i = true)) : whileOn p l i = i := by
  rw [whileOn_eq, if_neg h]
theorem whileOn_ind {p : Nat → Bool} {l : List Int} (Q : Nat → Prop) (hs : ∀ j, Q j → j < l.length → p j = true → Q (on l j)) : ∀ (n i : Nat), l.length - i ≤ n → Q i → Q (whileOn p l i)
  | 0, i, h, hi => by rw [whileOn_neg (by omega)]; exact hi
  | n + 1, i, h, hi => by
    by_cases hc : i < l.length ∧ p i = true
    · have := on_gt hc.1
      rw [whileOn_pos hc.1 hc.2]
      exact whileOn_ind Q hs n _ (by omega) (hs i hi hc.1 hc.2)
    · rw [whileOn_neg hc]; exact hi
theorem whileOn_le {p : Nat → Bool} {l : List Int} {i : Nat} (h : i ≤ l.length) : i ≤ whileOn p l i ∧ whileOn p l i ≤ l.length :=
  whileOn_ind (fun j => i ≤ j ∧ j ≤ l.length) (fun j hj hl _ => by have := on_gt hl; omega) _ i (Nat.le_refl _) ⟨Nat.le_refl _, h⟩
theorem whileOn_stop {p : Nat → Bool} {l : List Int} : ∀ (n i : Nat), l.length - i ≤ n → ¬ (whileOn p l i < l.length ∧ p (whileOn p l i) = true)
  | 0, i, h => by rw [whileOn_neg (by omega)]; omega
  | n + 1, i, h => by
    by_cases hc : i < l.length ∧ p i = true
    · have := on_gt hc.1
      rw [whileOn_pos hc.1 hc.2]
      exact whileOn_stop n _ (by omega)
    · rw [whileOn_neg hc]; exact hc

theorem start_le (l : List Int) : ∀ i, start l i ≤ i
  | 0 => Nat.le_refl _
  | n + 1 => by
    simp only [start]
    split
    · exact Nat.le_refl _
    · exact Nat.le_succ_of_le (start_le l n)
theorem tillNl_le (l : List Int) : tillNl l ≤ l.length := by
  unfold tillNl
  exact (List.takeWhile_sublist _).length_le
theorem fin_le {l : List Int} {i : Nat} (h : i ≤ l.length) : i ≤ fin l i ∧ fin l i ≤ l.length := by
  have := tillNl_le (l.drop i)
  rw [List.length_drop] at this
  unfold fin
  omega
theorem rest_le {l : List Int} {i : Nat} (h : i ≤ l.length) : rest l i ≤ i := by
  unfold rest
  split <;> omega
theorem placeN_le (l : List Int) : ∀ i, placeN l i ≤ i
  | 0 => Nat.le_refl _
  | n + 1 => by
    simp only [placeN]
    split
    · exact Nat.le_refl _
    · exact Nat.le_succ_of_le (placeN_le l n)
theorem begins_zero (l : List Int) : begins l 0 = true := by simp [begins]
theorem placeN_begins (l : List Int) : ∀ i, begins l (placeN l i) = true
  | 0 => begins_zero l
  | n + 1 => by
    simp only [placeN]
    split
    · assumption
    · exact placeN_begins l n
theorem placeN_self {l : List Int} {i : Nat} (h : begins l i = true) : placeN l i = i := by
  cases i with
  | zero => rfl
  | succ n => simp only [placeN]; rw [if_pos h]
theorem place_le (l : List Int) (a : Int) : place l a ≤ l.length := by
  unfold place
  have := placeN_le l (min a.toNat l.length)
  omega
theorem place_begins (l : List Int) (a : Int) : begins l (place l a) = true := placeN_begins l _
theorem begins_le {l : List Int} {i : Nat} (h : begins l i = true) : i ≤ l.length := by
  simp [begins] at h
  omega
theorem place_self {l : List Int} {i : Nat} (h : begins l i = true) : place l (i : Int) = i := by
  have := begins_le h
  unfold place
  rw [show min ((i : Int)).toNat l.length = i by omega]
  exact placeN_self h
end Go.Proofs.Ytiibjehnlphabaa

end

section
namespace Go.Proofs.Ytiibjehnlphabaa
set_option linter.unusedVariables false
set_option linter.unusedSimpArgs false
theorem cnt_le (l : List Int) : ∀ f i, i ≤ l.length → cnt l f i ≤ l.length - i
  | 0, i, h => Nat.zero_le _
  | f + 1, i, h => by
    simp only [cnt]
    split
    · rename_i hl
      have hg := on_gt hl
      have := cnt_le l f (on l i) hg.2.1
      omega
    · exact Nat.zero_le _
theorem count_le (l : List Int) : count l ≤ l.length := by have := cnt_le l l.length 0 (Nat.zero_le _); unfold count; omega
theorem column_le (l : List Int) {i : Nat} (h : i ≤ l.length) : column l i ≤ i := by
  have := count_le ((l.take i).drop (start l i))
  rw [List.length_drop, List.length_take] at this
  unfold column
  omega
theorem along_le {l : List Int} {q : Nat} (hq : q ≤ l.length) : ∀ (n i : Nat), i ≤ l.length → i ≤ along l q n i ∧ along l q n i ≤ l.length
  | 0, i, h => ⟨Nat.le_refl _, h⟩
  | n + 1, i, h => by
    simp only [along]
    split
    · have hg := on_gt (show i < l.length by omega)
      have := along_le hq n (on l i) hg.2.1
      omega
    · exact ⟨Nat.le_refl _, h⟩
theorem colAt_le {l : List Int} {i col : Nat} (h : i ≤ l.length) : start l i ≤ colAt l i col ∧ colAt l i col ≤ l.length :=
  along_le (fin_le h).2 col _ (Nat.le_trans (start_le l i) h)
theorem begins_len (l : List Int) : begins l l.length = true := by
  have h1 := sev_len l (l.length - 1)
  have h2 := sev_len l (l.length - 2)
  have h3 := sev_len l (l.length - 3)
  simp only [begins, Bool.and_eq_true, Bool.or_eq_true, decide_eq_true_eq]
  omega
theorem bytesOf_inj : ∀ {x y : List Int}, x.all byteB = true → y.all byteB = true → Lib.bytesOf x = Lib.bytesOf y → x = y
  | [], [], _, _, _ => rfl
  | [], b :: y, _, _, h => by simp [Lib.bytesOf] at h
  | a :: x, [], _, _, h => by simp [Lib.bytesOf] at h
  | a :: x, b :: y, hx, hy, h => by
    rw [List.all_cons, Bool.and_eq_true] at hx hy
    simp only [Lib.bytesOf, List.map_cons, List.cons.injEq] at h
    have e := bytesOf_inj hx.2 hy.2 h.2
    have ha := hx.1
    have hb := hy.1
    simp only [byteB, Bool.and_eq_true, decide_eq_true_eq] at ha hb
    have e' := congrArg UInt8.toNat h.1
    simp at e'
    rw [e, show a = b by omega]
end Go.Proofs.Ytiibjehnlphabaa

end

section
namespace Go.Proofs.Ytiibjehnlphabaa
set_option linter.unusedVariables false
set_option linter.unusedSimpArgs false

theorem sevTail_cont : ∀ (l : List Int) (r x : Int), sevTail r l = some x → ∀ b ∈ l, 128 ≤ b ∧ b < 192
  | [], _, _, _, b, hb => by cases hb
  | c :: l, r, x, h, b, hb => by
    simp only [sevTail, List.foldlM_cons] at h
    cases hs : sevStep r c with
    | none => simp [hs] at h
    | some y =>
      simp only [hs, Option.bind_eq_bind, Option.bind_some] at h
      have hc : 128 ≤ c ∧ c < 192 := by
        unfold sevStep at hs
        split at hs
        · assumption
        · cases hs
      rcases List.mem_cons.1 hb with rfl | hb
      · exact hc
      · exact sevTail_cont l y x h b hb
theorem sevEnd_some {least n : Int} {o : Option Int} (h : (sevEnd least n o).2 ≠ 0) : (∃ x, o = some x) ∧ (sevEnd least n o).2 = n := by
  cases o with
  | none => simp [sevEnd] at h
  | some r =>
    refine ⟨⟨r, rfl⟩, ?_⟩
    simp only [sevEnd] at h ⊢
    split
    · rfl
    · rename_i hn; simp [hn] at h
theorem sevOf_cont {l : List Int} (h : (sevOf l).2 ≠ 0) : 192 ≤ l.getD 0 0 ∧ ∀ t : Nat, 1 ≤ t → (t : Int) < (sevOf l).2 → 128 ≤ l.getD t 0 ∧ l.getD t 0 < 192 := by
  cases l with
  | nil => simp [sevOf] at h
  | cons c l =>
    have key : ∀ (k : Nat) (r least : Int), k ≤ l.length → (sevEnd least ((k : Int) + 1) (sevTail r (l.take k))).2 ≠ 0 → ∀ t : Nat, 1 ≤ t → (t : Int) < (sevEnd least ((k : Int) + 1) (sevTail r (l.take k))).2 → 128 ≤ (c :: l).getD t 0 ∧ (c :: l).getD t 0 < 192 := by
      intro k r least hk h0 t ht1 ht2
      obtain ⟨⟨x, hx⟩, he⟩ := sevEnd_some h0
      rw [he] at ht2
      have hb := sevTail_cont _ _ _ hx
      refine hb _ ?_
      obtain ⟨t, rfl⟩ : ∃ s, t = s + 1 := ⟨t - 1, by omega⟩
      rw [List.getD_cons_succ, List.mem_take_iff_getElem]
      refine ⟨t, by omega, ?_⟩
      rw [List.getD_eq_getElem?_getD, List.getElem?_eq_getElem (by omega)]
      rfl
    simp only [sevOf] at h ⊢
    split at h
    · rename_i h1
      rw [if_pos h1]
      split at h
      · rename_i h2
        rw [if_pos h2]
        exact ⟨by simpa using h1.1, key 1 _ _ h2 h⟩
      · simp at h
    · rename_i h1
      rw [if_neg h1]
      split at h
      · rename_i h2
        rw [if_pos h2]
        split at h
        · rename_i h3
          rw [if_pos h3]
          exact ⟨by simp; omega, key 2 _ _ h3 h⟩
        · simp at h
      · rename_i h2
        rw [if_neg h2]
        split at h
        · rename_i h3
          rw [if_pos h3]
          split at h
          · rename_i h4
            rw [if_pos h4]
            exact ⟨by simp; omega, key 3 _ _ h4 h⟩
          · simp at h
        · simp at h
theorem sev_cont {l : List Int} {i : Nat} (h : 0 < sev l i) : 192 ≤ l.getD i 0 ∧ ∀ t : Nat, 1 ≤ t → t < sev l i → 128 ≤ l.getD (i + t) 0 ∧ l.getD (i + t) 0 < 192 := by
  have hc := sev_cast l i
  obtain ⟨h1, h2⟩ := sevOf_cont (l := l.drop i) (by omega)
  have hg : ∀ t, (l.drop i).getD t 0 = l.getD (i + t) 0 := fun t => by simp [List.getD_eq_getElem?_getD, List.getElem?_drop]
  rw [hg] at h1
  refine ⟨h1, fun t a b => ?_⟩
  have := h2 t a (by omega)
  rwa [hg] at this
theorem sev_low {l : List Int} {i j : Nat} (hij : i ≤ j) (hl : l.getD j 0 < 128) : sev l i ≤ j - i := by
  rcases Nat.lt_or_ge (j - i) (sev l i) with h | h
  · exfalso
    obtain ⟨h1, h2⟩ := sev_cont (l := l) (i := i) (by omega)
    rcases Nat.eq_or_lt_of_le hij with rfl | hlt
    · omega
    · have := h2 (j - i) (by omega) h
      rw [Nat.add_sub_cancel' hij] at this
      omega
  · exact h
theorem begins_iff (l : List Int) (i : Nat) : begins l i = true ↔ i ≤ l.length ∧ (1 ≤ i → sev l (i - 1) ≤ 1) ∧ (2 ≤ i → sev l (i - 2) ≤ 2) ∧ (3 ≤ i → sev l (i - 3) ≤ 3) := by
  simp only [begins, Bool.and_eq_true, Bool.or_eq_true, decide_eq_true_eq]
  constructor
  · rintro ⟨⟨⟨h0, h1⟩, h2⟩, h3⟩
    exact ⟨h0, fun h => by rcases h1 with h1 | h1 <;> omega, fun h => by rcases h2 with h2 | h2 <;> omega, fun h => by rcases h3 with h3 | h3 <;> omega⟩
  · rintro ⟨h0, h1, h2, h3⟩
    refine ⟨⟨⟨h0, ?_⟩, ?_⟩, ?_⟩
    · rcases Nat.lt_or_ge i 1 with h | h
      · exact .inl h
      · exact .inr (h1 h)
    · rcases Nat.lt_or_ge i 2 with h | h
      · exact .inl h
      · exact .inr (h2 h)
    · rcases Nat.lt_or_ge i 3 with h | h
      · exact .inl h
      · exact .inr (h3 h)
theorem begins_behind {l : List Int} {j : Nat} (hj : j < l.length) (hl : l.getD j 0 < 128) : begins l (j + 1) = true := by
  rw [begins_iff]
  refine ⟨hj, fun _ => ?_, fun h => ?_, fun h => ?_⟩
  · have := sev_low (l := l) (Nat.le_refl j) hl
    rw [Nat.add_sub_cancel]; omega
  · have := sev_low (l := l) (i := j + 1 - 2) (j := j) (by omega) hl
    omega
  · have := sev_low (l := l) (i := j + 1 - 3) (j := j) (by omega) hl
    omega
theorem begins_at {l : List Int} {j : Nat} (hj : j < l.length) (hl : l.getD j 0 < 128) : begins l j = true := by
  rw [begins_iff]
  refine ⟨by omega, fun h => ?_, fun h => ?_, fun h => ?_⟩
  · have := sev_low (l := l) (i := j - 1) (j := j) (by omega) hl; omega
  · have := sev_low (l := l) (i := j - 2) (j := j) (by omega) hl; omega
  · have := sev_low (l := l) (i := j - 3) (j := j) (by omega) hl; omega
theorem start_begins {l : List Int} : ∀ {i : Nat}, i ≤ l.length → begins l (start l i) = true
  | 0, _ => begins_zero l
  | n + 1, h => by
    simp only [start]
    split
    · rename_i h10
      exact begins_behind h (by omega)
    · exact start_begins (by omega)
theorem fin_nl {l : List Int} {i : Nat} (h : fin l i < l.length) : l.getD (fin l i) 0 = 10 := by
  unfold fin tillNl at h ⊢
  have e : ∀ (m : List Int), (m.takeWhile (· != 10)).length < m.length → m.getD (m.takeWhile (· != 10)).length 0 = 10 := by
    intro m
    induction m with
    | nil => intro h; simp at h
    | cons c m ih =>
      intro h
      by_cases hc : c = 10
      · subst hc; simp [List.takeWhile_cons]
      · have : (c != 10) = true := by simp [hc]
        simp only [List.takeWhile_cons, this, if_true, List.length_cons] at h ⊢
        rw [List.getD_cons_succ]
        exact ih (by omega)
  have := e (l.drop i) (by rw [List.length_drop]; omega)
  rwa [List.getD_eq_getElem?_getD, List.getElem?_drop, ← List.getD_eq_getElem?_getD] at this
theorem below_begins {l : List Int} : ∀ {m j p : Nat}, j ≤ l.length → below l m j = some p → begins l p = true
  | 0, j, p, hj, h => by
    simp only [below] at h
    cases h
    exact start_begins hj
  | m + 1, j, p, hj, h => by
    simp only [below] at h
    split at h
    · exact below_begins (by omega) h
    · cases h
theorem aboveN_begins {l : List Int} : ∀ {m j p : Nat}, j ≤ l.length → begins l j = true → aboveN l m j = some p → begins l p = true
  | 0, j, p, hj, hb, h => by
    simp only [aboveN] at h
    cases h
    exact hb
  | m + 1, j, p, hj, hb, h => by
    simp only [aboveN] at h
    split at h
    · have := start_le l (j - 1)
      exact aboveN_begins (by omega) (start_begins (by omega)) h
    · cases h
theorem above_begins {l : List Int} {m j p : Nat} (hj : j ≤ l.length) (h : above l m j = some p) : begins l p = true := by
  have := start_le l j
  exact aboveN_begins (by omega) (start_begins hj) h
theorem lineN_begins {l : List Int} : ∀ {m j : Nat}, begins l j = true → begins l (lineN l m j) = true
  | 0, j, h => h
  | m + 1, j, h => by
    simp only [lineN]
    split
    · rename_i h1
      exact lineN_begins (begins_behind h1 (by rw [fin_nl h1]; omega))
    · exact h
theorem aheadN_le {l a : List Int} {q : Nat} (hq : q ≤ l.length) : ∀ (f m j p : Nat), aheadN l a q f m j = some p → p ≤ l.length
  | 0, _, _, _, h => by cases h
  | f + 1, m, j, p, h => by
    simp only [aheadN] at h
    split at h
    · split at h
      · rename_i h2
        split at h
        · cases h; omega
        · exact aheadN_le hq f _ _ p h
      · exact aheadN_le hq f _ _ p h
    · cases h
theorem ahead_le {l a : List Int} {m j p : Nat} (hj : j ≤ l.length) (h : ahead l a m j = some p) : p ≤ l.length := by
  unfold ahead at h
  split at h
  · exact aheadN_le (fin_le hj).2 _ _ _ _ h
  · cases h
end Go.Proofs.Ytiibjehnlphabaa

end

section
namespace Go.Proofs.Ytiibjehnlphabaa
set_option linter.unusedVariables false
set_option linter.unusedSimpArgs false

theorem begins_all (l : List Int) (i : Nat) : begins l i = true ↔ i ≤ l.length ∧ ∀ j, j < i → j + sev l j ≤ i := by
  rw [begins_iff]
  constructor
  · rintro ⟨h0, h1, h2, h3⟩
    refine ⟨h0, fun j hj => ?_⟩
    have := sev_len l j
    rcases (by omega : j = i - 1 ∨ j = i - 2 ∨ j = i - 3 ∨ j + 4 ≤ i) with h | h | h | h
    · subst h; have := h1 (by omega); omega
    · subst h
      rcases Nat.lt_or_ge i 2 with h' | h'
      · have := h1 (by omega); rw [show i - 2 = i - 1 by omega]; omega
      · have := h2 h'; omega
    · subst h
      rcases Nat.lt_or_ge i 3 with h' | h'
      · rcases Nat.lt_or_ge i 2 with h'' | h''
        · have := h1 (by omega); rw [show i - 3 = i - 1 by omega]; omega
        · have := h2 h''; rw [show i - 3 = i - 2 by omega]; omega
      · have := h3 h'; omega
    · omega
  · rintro ⟨h0, h⟩
    refine ⟨h0, fun hi => ?_, fun hi => ?_, fun hi => ?_⟩
    · have := h (i - 1) (by omega); omega
    · have := h (i - 2) (by omega); omega
    · have := h (i - 3) (by omega); omega
theorem sz_eq {l : List Int} {i : Nat} (h : i < l.length) : sz l i = if 0 < sev l i then sev l i else 1 := by unfold sz; rw [if_pos h]
theorem on_before {l : List Int} {i j : Nat} (hb : begins l i = true) (hj : j < i) : on l j ≤ i := by
  obtain ⟨h0, h⟩ := (begins_all l i).1 hb
  have := h j hj
  unfold on
  rw [sz_eq (by omega)]
  split <;> omega
theorem begins_on {l : List Int} {i : Nat} (hb : begins l i = true) (hi : i < l.length) : begins l (on l i) = true := by
  obtain ⟨h0, h⟩ := (begins_all l i).1 hb
  have hg := on_gt hi
  refine (begins_all l _).2 ⟨hg.2.1, fun j hj => ?_⟩
  rcases Nat.lt_trichotomy j i with h1 | h1 | h1
  · have := h j h1; omega
  · subst h1
    unfold on
    rw [sz_eq hi]
    split <;> omega
  · have hs : 0 < sev l i ∧ on l i = i + sev l i := by
      unfold on at hj ⊢
      rw [sz_eq hi] at hj ⊢
      split at hj
      · rename_i hh; rw [if_pos hh]; exact ⟨hh, rfl⟩
      · omega
    obtain ⟨_, hc⟩ := sev_cont hs.1
    have := hc (j - i) (by omega) (by omega)
    rw [Nat.add_sub_cancel' (by omega)] at this
    rcases Nat.eq_zero_or_pos (sev l j) with h2 | h2
    · omega
    · have := (sev_cont h2).1; omega
theorem last_inv {l : List Int} {i : Nat} (hb : begins l i = true) (hi : 1 ≤ i) : begins l (i - lastSz l i) = true ∧ on l (i - lastSz l i) = i ∧ 1 ≤ lastSz l i ∧ lastSz l i ≤ i := by
  obtain ⟨h0, h⟩ := (begins_all l i).1 hb
  have hp := lastSz_pos hi h0
  have many : ∀ k, 2 ≤ k → k ≤ i → sev l (i - k) = k → begins l (i - k) = true ∧ on l (i - k) = i := by
    intro k h2 hk hs
    have ho : on l (i - k) = i := by
      unfold on
      rw [sz_eq (by omega), if_pos (by omega), hs]
      omega
    refine ⟨(begins_all l _).2 ⟨by omega, fun j hj => ?_⟩, ho⟩
    have h1 := h j (by omega)
    rcases Nat.lt_or_ge (i - k) (j + sev l j) with hlt | hge
    · exfalso
      obtain ⟨_, hc⟩ := sev_cont (l := l) (i := j) (by omega)
      have := hc (i - k - j) (by omega) (by omega)
      rw [Nat.add_sub_cancel' (by omega)] at this
      have := (sev_cont (l := l) (i := i - k) (by omega)).1
      omega
    · exact hge
  have key : lastSz l i = if 2 ≤ i ∧ sev l (i - 2) = 2 then 2 else if 3 ≤ i ∧ sev l (i - 3) = 3 then 3 else if 4 ≤ i ∧ sev l (i - 4) = 4 then 4 else 1 := by
    unfold lastSz
    rw [if_neg (by omega)]
  have fin2 : begins l (i - lastSz l i) = true ∧ on l (i - lastSz l i) = i := by
    rw [key]
    split
    · rename_i a; exact many 2 (by omega) a.1 a.2
    · rename_i a2
      split
      · rename_i a; exact many 3 (by omega) a.1 a.2
      · rename_i a3
        split
        · rename_i a; exact many 4 (by omega) a.1 a.2
        · rename_i a4
          have s1 : sev l (i - 1) = 0 := by
            have := h (i - 1) (by omega)
            have := sev_len l (i - 1)
            omega
          refine ⟨(begins_all l _).2 ⟨by omega, fun j hj => ?_⟩, ?_⟩
          · have h1 := h j (by omega)
            have h2 := sev_len l j
            rcases Nat.lt_or_ge (i - 1) (j + sev l j) with hlt | hge
            · exfalso
              have he : j + sev l j = i := by omega
              rcases (by omega : sev l j = 2 ∨ sev l j = 3 ∨ sev l j = 4) with hs | hs | hs
              · exact a2 ⟨by omega, by rw [show i - 2 = j by omega]; exact hs⟩
              · exact a3 ⟨by omega, by rw [show i - 3 = j by omega]; exact hs⟩
              · exact a4 ⟨by omega, by rw [show i - 4 = j by omega]; exact hs⟩
            · exact hge
          · unfold on
            rw [sz_eq (by omega), if_neg (by omega)]
            omega
  exact ⟨fin2.1, fin2.2, hp.1, hp.2.2⟩
theorem on_inj {l : List Int} {i j : Nat} (hi : begins l i = true) (hj : begins l j = true) (hil : i < l.length) (hjl : j < l.length) (h : on l i = on l j) : i = j := by
  have h1 := on_gt hil
  have h2 := on_gt hjl
  rcases Nat.lt_trichotomy i j with hlt | he | hlt
  · have := on_before hj hlt; omega
  · exact he
  · have := on_before hi hlt; omega
theorem on_inv {l : List Int} {i : Nat} (hb : begins l i = true) (hi : i < l.length) : on l i - lastSz l (on l i) = i := by
  have hg := on_gt hi
  obtain ⟨h1, h2, h3, h4⟩ := last_inv (begins_on hb hi) (by omega)
  exact on_inj h1 hb (by omega) hi h2

theorem start_spec (l : List Int) : ∀ i, start l i ≤ i ∧ (start l i = 0 ∨ l.getD (start l i - 1) 0 = 10) ∧ ∀ j, start l i ≤ j → j < i → l.getD j 0 ≠ 10
  | 0 => ⟨Nat.le_refl _, .inl rfl, fun j _ h => by omega⟩
  | n + 1 => by
    simp only [start]
    split
    · rename_i h
      exact ⟨Nat.le_refl _, .inr (by rw [Nat.add_sub_cancel]; exact h), fun j h1 h2 => by omega⟩
    · rename_i h
      obtain ⟨h1, h2, h3⟩ := start_spec l n
      refine ⟨by omega, h2, fun j h4 h5 => ?_⟩
      rcases Nat.lt_or_ge j n with h6 | h6
      · exact h3 j h4 h6
      · rw [show j = n by omega]; exact h
theorem start_unique {l : List Int} {i s : Nat} (h1 : s ≤ i) (h2 : s = 0 ∨ l.getD (s - 1) 0 = 10) (h3 : ∀ j, s ≤ j → j < i → l.getD j 0 ≠ 10) : start l i = s := by
  obtain ⟨g1, g2, g3⟩ := start_spec l i
  rcases Nat.lt_trichotomy (start l i) s with h | h | h
  · rcases h2 with h2 | h2
    · omega
    · exact absurd h2 (g3 (s - 1) (by omega) (by omega))
  · exact h
  · rcases g2 with g2 | g2
    · omega
    · exact absurd g2 (h3 (start l i - 1) (by omega) (by omega))
theorem fin_spec {l : List Int} : ∀ (n i : Nat), l.length - i ≤ n → i ≤ l.length → i ≤ fin l i ∧ fin l i ≤ l.length ∧ (fin l i = l.length ∨ l.getD (fin l i) 0 = 10) ∧ ∀ j, i ≤ j → j < fin l i → l.getD j 0 ≠ 10 := by
  have step : ∀ i, i < l.length → fin l i = if l.getD i 0 = 10 then i else fin l (i + 1) := by
    intro i h
    have hd : l.drop i = l.getD i 0 :: l.drop (i + 1) := by
      rw [List.drop_eq_getElem_cons h, List.getD_eq_getElem?_getD, List.getElem?_eq_getElem h]
      rfl
    unfold fin tillNl
    rw [hd, List.takeWhile_cons]
    by_cases h10 : l.getD i 0 = 10
    · have : (l.getD i 0 != 10) = false := by rw [h10]; rfl
      rw [if_pos h10, this]; rfl
    · rw [if_neg h10]
      have : (l.getD i 0 != 10) = true := by simp only [bne_iff_ne]; exact h10
      rw [this]
      simp only [if_true, List.length_cons]
      omega
  intro n
  induction n with
  | zero =>
    intro i hn hi
    have := fin_le hi
    exact ⟨this.1, this.2, .inl (by omega), fun j h1 h2 => by omega⟩
  | succ n ih =>
    intro i hn hi
    by_cases hlt : i < l.length
    · rw [step i hlt]
      by_cases h10 : l.getD i 0 = 10
      · rw [if_pos h10]
        exact ⟨Nat.le_refl _, hi, .inr h10, fun j h1 h2 => by omega⟩
      · rw [if_neg h10]
        obtain ⟨g1, g2, g3, g4⟩ := ih (i + 1) (by omega) (by omega)
        refine ⟨by omega, g2, g3, fun j h1 h2 => ?_⟩
        rcases Nat.lt_or_ge i j with h | h
        · exact g4 j h h2
        · rw [show j = i by omega]; exact h10
    · have := fin_le hi
      exact ⟨this.1, this.2, .inl (by omega), fun j h1 h2 => by omega⟩
theorem fin_unique {l : List Int} {i e : Nat} (h0 : i ≤ e) (h1 : e ≤ l.length) (h2 : e = l.length ∨ l.getD e 0 = 10) (h3 : ∀ j, i ≤ j → j < e → l.getD j 0 ≠ 10) : fin l i = e := by
  obtain ⟨g1, g2, g3, g4⟩ := fin_spec (l := l) _ i (Nat.le_refl _) (by omega)
  rcases Nat.lt_trichotomy (fin l i) e with h | h | h
  · rcases g3 with g3 | g3
    · omega
    · exact absurd g3 (h3 _ g1 h)
  · exact h
  · rcases h2 with h2 | h2
    · omega
    · exact absurd h2 (g4 e h0 h)
theorem same_line {l : List Int} {q p : Nat} (hq : q ≤ l.length) (h1 : start l q ≤ p) (h2 : p ≤ fin l q) : start l p = start l q ∧ fin l p = fin l q := by
  obtain ⟨s1, s2, s3⟩ := start_spec l q
  obtain ⟨g1, g2, g3, g4⟩ := fin_spec (l := l) _ q (Nat.le_refl _) hq
  have no : ∀ j, start l q ≤ j → j < fin l q → l.getD j 0 ≠ 10 := fun j a b => by
    rcases Nat.lt_or_ge j q with h | h
    · exact s3 j a h
    · exact g4 j h b
  exact ⟨start_unique h1 s2 (fun j a b => no j a (by omega)), fin_unique h2 g2 g3 (fun j a b => no j (by omega) b)⟩
def nl (l : List Int) : Nat → Nat
  | 0 => 0
  | i + 1 => nl l i + if l.getD i 0 = 10 then 1 else 0
theorem nl_mono (l : List Int) {i j : Nat} (h : i ≤ j) : nl l i ≤ nl l j := by
  induction h with
  | refl => exact Nat.le_refl _
  | step _ ih => simp only [nl]; omega
theorem nl_same (l : List Int) {i j : Nat} (h : i ≤ j) (hn : ∀ k, i ≤ k → k < j → l.getD k 0 ≠ 10) : nl l i = nl l j := by
  induction h with
  | refl => rfl
  | @step m hm ih =>
    simp only [nl]
    rw [if_neg (hn m hm (Nat.lt_succ_self _)), ← ih (fun k a b => hn k a (by omega)), Nat.add_zero]
theorem nl_start (l : List Int) (i : Nat) : nl l (start l i) = nl l i := by
  obtain ⟨s1, s2, s3⟩ := start_spec l i
  exact nl_same l s1 s3
theorem nl_fin {l : List Int} {i : Nat} (hi : i ≤ l.length) : nl l (fin l i) = nl l i := by
  obtain ⟨g1, g2, g3, g4⟩ := fin_spec (l := l) _ i (Nat.le_refl _) hi
  exact (nl_same l g1 g4).symm
theorem nl_next {l : List Int} {i : Nat} (hi : fin l i < l.length) (h : i ≤ l.length) : nl l (fin l i + 1) = nl l i + 1 := by
  simp only [nl]
  rw [if_pos (fin_nl hi), nl_fin h]
def isStart (l : List Int) (s : Nat) : Prop := s ≤ l.length ∧ (s = 0 ∨ l.getD (s - 1) 0 = 10)
theorem isStart_start {l : List Int} {i : Nat} (hi : i ≤ l.length) : isStart l (start l i) := by
  obtain ⟨s1, s2, s3⟩ := start_spec l i
  exact ⟨by omega, s2⟩
theorem isStart_self {l : List Int} {s : Nat} (h : isStart l s) : start l s = s := start_unique (Nat.le_refl _) h.2 (fun j a b => by omega)
theorem isStart_next {l : List Int} {i : Nat} (h : fin l i < l.length) : isStart l (fin l i + 1) := ⟨by omega, .inr (by rw [Nat.add_sub_cancel]; exact fin_nl h)⟩
theorem below_is {l : List Int} : ∀ {m i : Nat}, i ≤ l.length → ((below l m i).isSome = true ↔ nl l i + m ≤ nl l l.length)
  | 0, i, hi => by simp [below, nl_mono l hi]
  | m + 1, i, hi => by
    simp only [below]
    split
    · rename_i hf
      rw [below_is (by omega), nl_next hf hi]
      omega
    · rename_i hf
      have := fin_le hi
      have h2 := nl_fin hi
      rw [show fin l i = l.length by omega] at h2
      simp
      omega
theorem aboveN_is {l : List Int} : ∀ {m s : Nat}, isStart l s → ((aboveN l m s).isSome = true ↔ m ≤ nl l s)
  | 0, s, hs => by simp [aboveN]
  | m + 1, s, hs => by
    simp only [aboveN]
    split
    · rename_i h0
      rw [aboveN_is (isStart_start (by have := hs.1; omega)), nl_start]
      have h2 : nl l s = nl l (s - 1) + 1 := by
        obtain ⟨k, rfl⟩ : ∃ k, s = k + 1 := ⟨s - 1, by omega⟩
        rcases hs.2 with h | h
        · omega
        · simp only [nl, Nat.add_sub_cancel] at h ⊢
          rw [if_pos h]
      omega
    · rename_i h0
      rw [show s = 0 by omega]
      simp [nl]
theorem lineN_nl {l : List Int} : ∀ {m s : Nat}, isStart l s → isStart l (lineN l m s) ∧ nl l (lineN l m s) = min (nl l s + m) (nl l l.length)
  | 0, s, hs => by
    simp only [lineN]
    exact ⟨hs, by have := nl_mono l hs.1; omega⟩
  | m + 1, s, hs => by
    simp only [lineN]
    split
    · rename_i hf
      have := lineN_nl (m := m) (isStart_next hf)
      rw [nl_next hf hs.1] at this
      exact ⟨this.1, by omega⟩
    · rename_i hf
      have h1 := fin_le hs.1
      have h2 := nl_fin hs.1
      rw [show fin l s = l.length by omega] at h2
      exact ⟨hs, by omega⟩

end Go.Proofs.Ytiibjehnlphabaa

end
