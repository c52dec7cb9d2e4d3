/-
  No cell of these rows narrows 'for every input' (looked for: loops, veiled, ifaces, maps, wideKeys, modest, calm, conditions, laid).
  DERIVED. THE GIVEN ROWS OF THIS SEAT. 9 by the template 'for every input the law returns true; each argument reads behind the call as it read before'; 0 by the template 'total and deterministic' (their statements: YtiibjehnlphabaaTotals.lean).
  GIVEN WITH THE SEED: the statements are not yours to turn. If you find one false, say at which input.
  Laid BY PROGRAM, IN A SANDBOX (cutbox-rows.mjs): the forced cells as the released guide's own fill.sh prints them over the translation 50e929e1e63367b2… (all of the seat's roots in one cut). By AI agents, Wed Nov 11 2026. No macro, syntax, notation, axiom, sorry.
-/
import Derived.Test.YtiibjehnlphabaaChecked
import GoSem.Claim
import GoSem.ClaimJoined
import GoSem.ClaimMapViews
import Derived.JoinedTies
import Derived.KernelRfl
namespace Go.Proofs.Ytiibjehnlphabaa
/- THE CELL 'sum', in the pinned program and in every row, IS THE sha256 OF THE DUMP (.gsa) THAT YtiibjehnlphabaaProg.lean LOADS. Nothing in Lean hashes anything: it is a label: what it is worth is what the hold of that sum in a sandbox is worth. -/
noncomputable def Try.pinned : Pinned := { name := "ytiibjehnlphabaa", sum := "50e929e1e63367b262ff75731afc6dc6ae718bef1210e375dc6c20b396c7bf7c", checked := Try.checked }
namespace Rows
def none {H : Type} : Left H := { results := [], args := [] }

/-- 'escritoirelaw23.MoveKnown': WHATEVER THE INPUT: true; the input reads as it did. -/
def moveKnownSpec : ChangeSpec := { name := "moveKnown", fn := fun _ => fun
  | [] => { results := [.lit (.bool true)], args := [] }
  | _ => none }
def moveKnownRow : OpenClaim := { program := "ytiibjehnlphabaa", sum := "50e929e1e63367b262ff75731afc6dc6ae718bef1210e375dc6c20b396c7bf7c", func := "escritoire/escritoirelaw23.MoveKnown", spec := "moveKnown", inPlace := ["internal/bytealg.IndexByte"], unfollowed := true, recurses := true, apart := false }
def MoveKnownSaid : Prop := moveKnownRow.holds Try.pinned (OpenSpec.ofChange moveKnownSpec)

/-- ITS FALSE NEIGHBOUR: 'it returns false'. Refute it at one input. -/
def moveKnownWrong : ChangeSpec := { name := "moveKnown", fn := fun _ => fun
  | [] => { results := [.lit (.bool false)], args := [] }
  | _ => none }
def MoveKnownWrongFalsely : Prop := moveKnownRow.holds Try.pinned (OpenSpec.ofChange moveKnownWrong)

/-- 'escritoirelaw23.MoveGoes': WHATEVER THE INPUT: true; the input reads as it did. -/
def moveGoesSpec : ChangeSpec := { name := "moveGoes", fn := fun _ => fun
  | [d1, d2, d3] => { results := [.lit (.bool true)], args := [d1, d2, d3] }
  | _ => none }
def moveGoesRow : OpenClaim := { program := "ytiibjehnlphabaa", sum := "50e929e1e63367b262ff75731afc6dc6ae718bef1210e375dc6c20b396c7bf7c", func := "escritoire/escritoirelaw23.MoveGoes", spec := "moveGoes", inPlace := ["internal/bytealg.IndexByte"], unfollowed := true, recurses := true, apart := false }
def MoveGoesSaid : Prop := moveGoesRow.holds Try.pinned (OpenSpec.ofChange moveGoesSpec)

/-- ITS FALSE NEIGHBOUR: 'it returns false'. Refute it at one input. -/
def moveGoesWrong : ChangeSpec := { name := "moveGoes", fn := fun _ => fun
  | [d1, d2, d3] => { results := [.lit (.bool false)], args := [d1, d2, d3] }
  | _ => none }
def MoveGoesWrongFalsely : Prop := moveGoesRow.holds Try.pinned (OpenSpec.ofChange moveGoesWrong)

/-- 'escritoirelaw23.MoveRests': WHATEVER THE INPUT: true; the input reads as it did. -/
def moveRestsSpec : ChangeSpec := { name := "moveRests", fn := fun _ => fun
  | [d1, d2, d3] => { results := [.lit (.bool true)], args := [d1, d2, d3] }
  | _ => none }
def moveRestsRow : OpenClaim := { program := "ytiibjehnlphabaa", sum := "50e929e1e63367b262ff75731afc6dc6ae718bef1210e375dc6c20b396c7bf7c", func := "escritoire/escritoirelaw23.MoveRests", spec := "moveRests", inPlace := ["internal/bytealg.IndexByte"], unfollowed := true, recurses := true, apart := false }
def MoveRestsSaid : Prop := moveRestsRow.holds Try.pinned (OpenSpec.ofChange moveRestsSpec)

/-- ITS FALSE NEIGHBOUR: 'it returns false'. Refute it at one input. -/
def moveRestsWrong : ChangeSpec := { name := "moveRests", fn := fun _ => fun
  | [d1, d2, d3] => { results := [.lit (.bool false)], args := [d1, d2, d3] }
  | _ => none }
def MoveRestsWrongFalsely : Prop := moveRestsRow.holds Try.pinned (OpenSpec.ofChange moveRestsWrong)

/-- 'escritoirelaw23.MoveWords': WHATEVER THE INPUT: true; the input reads as it did. -/
def moveWordsSpec : ChangeSpec := { name := "moveWords", fn := fun _ => fun
  | [d1, d2] => { results := [.lit (.bool true)], args := [d1, d2] }
  | _ => none }
def moveWordsRow : OpenClaim := { program := "ytiibjehnlphabaa", sum := "50e929e1e63367b262ff75731afc6dc6ae718bef1210e375dc6c20b396c7bf7c", func := "escritoire/escritoirelaw23.MoveWords", spec := "moveWords", inPlace := ["internal/bytealg.IndexByte"], unfollowed := true, recurses := true, apart := false }
def MoveWordsSaid : Prop := moveWordsRow.holds Try.pinned (OpenSpec.ofChange moveWordsSpec)

/-- ITS FALSE NEIGHBOUR: 'it returns false'. Refute it at one input. -/
def moveWordsWrong : ChangeSpec := { name := "moveWords", fn := fun _ => fun
  | [d1, d2] => { results := [.lit (.bool false)], args := [d1, d2] }
  | _ => none }
def MoveWordsWrongFalsely : Prop := moveWordsRow.holds Try.pinned (OpenSpec.ofChange moveWordsWrong)

/-- 'escritoirelaw23.MoveBack': WHATEVER THE INPUT: true; the input reads as it did. -/
def moveBackSpec : ChangeSpec := { name := "moveBack", fn := fun _ => fun
  | [d1, d2, d3] => { results := [.lit (.bool true)], args := [d1, d2, d3] }
  | _ => none }
def moveBackRow : OpenClaim := { program := "ytiibjehnlphabaa", sum := "50e929e1e63367b262ff75731afc6dc6ae718bef1210e375dc6c20b396c7bf7c", func := "escritoire/escritoirelaw23.MoveBack", spec := "moveBack", inPlace := ["internal/bytealg.IndexByte"], unfollowed := true, recurses := true, apart := false }
def MoveBackSaid : Prop := moveBackRow.holds Try.pinned (OpenSpec.ofChange moveBackSpec)

/-- ITS FALSE NEIGHBOUR: 'it returns false'. Refute it at one input. -/
def moveBackWrong : ChangeSpec := { name := "moveBack", fn := fun _ => fun
  | [d1, d2, d3] => { results := [.lit (.bool false)], args := [d1, d2, d3] }
  | _ => none }
def MoveBackWrongFalsely : Prop := moveBackRow.holds Try.pinned (OpenSpec.ofChange moveBackWrong)

/-- 'escritoirelaw23.MoveFinds': WHATEVER THE INPUT: true; the input reads as it did. -/
def moveFindsSpec : ChangeSpec := { name := "moveFinds", fn := fun _ => fun
  | [d1, d2, d3] => { results := [.lit (.bool true)], args := [d1, d2, d3] }
  | _ => none }
def moveFindsRow : OpenClaim := { program := "ytiibjehnlphabaa", sum := "50e929e1e63367b262ff75731afc6dc6ae718bef1210e375dc6c20b396c7bf7c", func := "escritoire/escritoirelaw23.MoveFinds", spec := "moveFinds", inPlace := ["internal/bytealg.IndexByte"], unfollowed := true, recurses := true, apart := false }
def MoveFindsSaid : Prop := moveFindsRow.holds Try.pinned (OpenSpec.ofChange moveFindsSpec)

/-- ITS FALSE NEIGHBOUR: 'it returns false'. Refute it at one input. -/
def moveFindsWrong : ChangeSpec := { name := "moveFinds", fn := fun _ => fun
  | [d1, d2, d3] => { results := [.lit (.bool false)], args := [d1, d2, d3] }
  | _ => none }
def MoveFindsWrongFalsely : Prop := moveFindsRow.holds Try.pinned (OpenSpec.ofChange moveFindsWrong)

/-- 'escritoirelaw23.MoveLines': WHATEVER THE INPUT: true; the input reads as it did. -/
def moveLinesSpec : ChangeSpec := { name := "moveLines", fn := fun _ => fun
  | [d1, d2] => { results := [.lit (.bool true)], args := [d1, d2] }
  | _ => none }
def moveLinesRow : OpenClaim := { program := "ytiibjehnlphabaa", sum := "50e929e1e63367b262ff75731afc6dc6ae718bef1210e375dc6c20b396c7bf7c", func := "escritoire/escritoirelaw23.MoveLines", spec := "moveLines", inPlace := ["internal/bytealg.IndexByte"], unfollowed := true, recurses := true, apart := false }
def MoveLinesSaid : Prop := moveLinesRow.holds Try.pinned (OpenSpec.ofChange moveLinesSpec)

/-- ITS FALSE NEIGHBOUR: 'it returns false'. Refute it at one input. -/
def moveLinesWrong : ChangeSpec := { name := "moveLines", fn := fun _ => fun
  | [d1, d2] => { results := [.lit (.bool false)], args := [d1, d2] }
  | _ => none }
def MoveLinesWrongFalsely : Prop := moveLinesRow.holds Try.pinned (OpenSpec.ofChange moveLinesWrong)

/-- 'escritoirelaw23.MovePlaces': WHATEVER THE INPUT: true; the input reads as it did. -/
def movePlacesSpec : ChangeSpec := { name := "movePlaces", fn := fun _ => fun
  | [d1, d2, d3] => { results := [.lit (.bool true)], args := [d1, d2, d3] }
  | _ => none }
def movePlacesRow : OpenClaim := { program := "ytiibjehnlphabaa", sum := "50e929e1e63367b262ff75731afc6dc6ae718bef1210e375dc6c20b396c7bf7c", func := "escritoire/escritoirelaw23.MovePlaces", spec := "movePlaces", inPlace := ["internal/bytealg.IndexByte"], unfollowed := true, recurses := true, apart := false }
def MovePlacesSaid : Prop := movePlacesRow.holds Try.pinned (OpenSpec.ofChange movePlacesSpec)

/-- ITS FALSE NEIGHBOUR: 'it returns false'. Refute it at one input. -/
def movePlacesWrong : ChangeSpec := { name := "movePlaces", fn := fun _ => fun
  | [d1, d2, d3] => { results := [.lit (.bool false)], args := [d1, d2, d3] }
  | _ => none }
def MovePlacesWrongFalsely : Prop := movePlacesRow.holds Try.pinned (OpenSpec.ofChange movePlacesWrong)

/-- 'escritoirelaw23.MoveSpans': WHATEVER THE INPUT: true; the input reads as it did. -/
def moveSpansSpec : ChangeSpec := { name := "moveSpans", fn := fun _ => fun
  | [d1, d2, d3] => { results := [.lit (.bool true)], args := [d1, d2, d3] }
  | _ => none }
def moveSpansRow : OpenClaim := { program := "ytiibjehnlphabaa", sum := "50e929e1e63367b262ff75731afc6dc6ae718bef1210e375dc6c20b396c7bf7c", func := "escritoire/escritoirelaw23.MoveSpans", spec := "moveSpans", inPlace := ["internal/bytealg.IndexByte"], unfollowed := true, recurses := true, apart := false }
def MoveSpansSaid : Prop := moveSpansRow.holds Try.pinned (OpenSpec.ofChange moveSpansSpec)

/-- ITS FALSE NEIGHBOUR: 'it returns false'. Refute it at one input. -/
def moveSpansWrong : ChangeSpec := { name := "moveSpans", fn := fun _ => fun
  | [d1, d2, d3] => { results := [.lit (.bool false)], args := [d1, d2, d3] }
  | _ => none }
def MoveSpansWrongFalsely : Prop := moveSpansRow.holds Try.pinned (OpenSpec.ofChange moveSpansWrong)

/- THE SECOND FORM. 'bulk': how many values and letters a reading holds, each counted each time it is reached (what is shared counts as often as it is met; a slice's spare places count too). A statement '..UptoSaid' is the law's where the arguments, and the package variables that the reading takes, are together of bulk at most 1048576: NARROWER than '..Said'. Prove '..Said' where nothing that the law and all that it calls make is longer than what came in: it says more and counts as full. Else prove '..UptoSaid'. A law counts once. -/
mutual
def uptoBulk {H : Type} : DataW H → Nat
  | .lit (.string bytes) => bytes.length + 1
  | .lit _ => 1
  | .nil => 1
  | .ptr d => uptoBulk d + 1
  | .slice elems spare => uptoBulkAll elems + uptoBulkAll spare + 1
  | .agg parts => uptoBulkAll parts + 1
  | .iface _ d => uptoBulk d + 1
  | .map entries => uptoBulkEntries entries + 1
  | .held _ => 1
def uptoBulkAll {H : Type} : List (DataW H) → Nat
  | [] => 0
  | d :: r => uptoBulk d + uptoBulkAll r
def uptoBulkEntries {H : Type} : List (Lit × DataW H) → Nat
  | [] => 0
  | x :: r => uptoBulkEntry x + uptoBulkEntries r
def uptoBulkEntry {H : Type} : Lit × DataW H → Nat
  | (.string bytes, d) => bytes.length + uptoBulk d + 1
  | (_, d) => uptoBulk d + 1
 end
def uptoSmall : (H : Type) → List (DataW H) → Bool := fun _ ds => decide (uptoBulkAll ds ≤ 1048576)
def OpenSpec.upto (s : _root_.Go.ChangeSpec) : _root_.Go.OpenSpec := { _root_.Go.OpenSpec.ofChange s with cond := some uptoSmall }

/-- 'escritoirelaw23.MoveKnown', WHERE WHAT IT READS IS OF BULK AT MOST 1048576: true; the input reads as it did. -/
def moveKnownUptoRow : OpenClaim := { program := "ytiibjehnlphabaa", sum := "50e929e1e63367b262ff75731afc6dc6ae718bef1210e375dc6c20b396c7bf7c", func := "escritoire/escritoirelaw23.MoveKnown", spec := "moveKnown", inPlace := ["internal/bytealg.IndexByte"], unfollowed := true, recurses := true, apart := false, narrowed := true }
def MoveKnownUptoSaid : Prop := moveKnownUptoRow.holds Try.pinned (OpenSpec.upto moveKnownSpec)

/-- 'escritoirelaw23.MoveGoes', WHERE WHAT IT READS IS OF BULK AT MOST 1048576: true; the input reads as it did. -/
def moveGoesUptoRow : OpenClaim := { program := "ytiibjehnlphabaa", sum := "50e929e1e63367b262ff75731afc6dc6ae718bef1210e375dc6c20b396c7bf7c", func := "escritoire/escritoirelaw23.MoveGoes", spec := "moveGoes", inPlace := ["internal/bytealg.IndexByte"], unfollowed := true, recurses := true, apart := false, narrowed := true }
def MoveGoesUptoSaid : Prop := moveGoesUptoRow.holds Try.pinned (OpenSpec.upto moveGoesSpec)

/-- 'escritoirelaw23.MoveRests', WHERE WHAT IT READS IS OF BULK AT MOST 1048576: true; the input reads as it did. -/
def moveRestsUptoRow : OpenClaim := { program := "ytiibjehnlphabaa", sum := "50e929e1e63367b262ff75731afc6dc6ae718bef1210e375dc6c20b396c7bf7c", func := "escritoire/escritoirelaw23.MoveRests", spec := "moveRests", inPlace := ["internal/bytealg.IndexByte"], unfollowed := true, recurses := true, apart := false, narrowed := true }
def MoveRestsUptoSaid : Prop := moveRestsUptoRow.holds Try.pinned (OpenSpec.upto moveRestsSpec)

/-- 'escritoirelaw23.MoveWords', WHERE WHAT IT READS IS OF BULK AT MOST 1048576: true; the input reads as it did. -/
def moveWordsUptoRow : OpenClaim := { program := "ytiibjehnlphabaa", sum := "50e929e1e63367b262ff75731afc6dc6ae718bef1210e375dc6c20b396c7bf7c", func := "escritoire/escritoirelaw23.MoveWords", spec := "moveWords", inPlace := ["internal/bytealg.IndexByte"], unfollowed := true, recurses := true, apart := false, narrowed := true }
def MoveWordsUptoSaid : Prop := moveWordsUptoRow.holds Try.pinned (OpenSpec.upto moveWordsSpec)

/-- 'escritoirelaw23.MoveBack', WHERE WHAT IT READS IS OF BULK AT MOST 1048576: true; the input reads as it did. -/
def moveBackUptoRow : OpenClaim := { program := "ytiibjehnlphabaa", sum := "50e929e1e63367b262ff75731afc6dc6ae718bef1210e375dc6c20b396c7bf7c", func := "escritoire/escritoirelaw23.MoveBack", spec := "moveBack", inPlace := ["internal/bytealg.IndexByte"], unfollowed := true, recurses := true, apart := false, narrowed := true }
def MoveBackUptoSaid : Prop := moveBackUptoRow.holds Try.pinned (OpenSpec.upto moveBackSpec)

/-- 'escritoirelaw23.MoveFinds', WHERE WHAT IT READS IS OF BULK AT MOST 1048576: true; the input reads as it did. -/
def moveFindsUptoRow : OpenClaim := { program := "ytiibjehnlphabaa", sum := "50e929e1e63367b262ff75731afc6dc6ae718bef1210e375dc6c20b396c7bf7c", func := "escritoire/escritoirelaw23.MoveFinds", spec := "moveFinds", inPlace := ["internal/bytealg.IndexByte"], unfollowed := true, recurses := true, apart := false, narrowed := true }
def MoveFindsUptoSaid : Prop := moveFindsUptoRow.holds Try.pinned (OpenSpec.upto moveFindsSpec)

/-- 'escritoirelaw23.MoveLines', WHERE WHAT IT READS IS OF BULK AT MOST 1048576: true; the input reads as it did. -/
def moveLinesUptoRow : OpenClaim := { program := "ytiibjehnlphabaa", sum := "50e929e1e63367b262ff75731afc6dc6ae718bef1210e375dc6c20b396c7bf7c", func := "escritoire/escritoirelaw23.MoveLines", spec := "moveLines", inPlace := ["internal/bytealg.IndexByte"], unfollowed := true, recurses := true, apart := false, narrowed := true }
def MoveLinesUptoSaid : Prop := moveLinesUptoRow.holds Try.pinned (OpenSpec.upto moveLinesSpec)

/-- 'escritoirelaw23.MovePlaces', WHERE WHAT IT READS IS OF BULK AT MOST 1048576: true; the input reads as it did. -/
def movePlacesUptoRow : OpenClaim := { program := "ytiibjehnlphabaa", sum := "50e929e1e63367b262ff75731afc6dc6ae718bef1210e375dc6c20b396c7bf7c", func := "escritoire/escritoirelaw23.MovePlaces", spec := "movePlaces", inPlace := ["internal/bytealg.IndexByte"], unfollowed := true, recurses := true, apart := false, narrowed := true }
def MovePlacesUptoSaid : Prop := movePlacesUptoRow.holds Try.pinned (OpenSpec.upto movePlacesSpec)

/-- 'escritoirelaw23.MoveSpans', WHERE WHAT IT READS IS OF BULK AT MOST 1048576: true; the input reads as it did. -/
def moveSpansUptoRow : OpenClaim := { program := "ytiibjehnlphabaa", sum := "50e929e1e63367b262ff75731afc6dc6ae718bef1210e375dc6c20b396c7bf7c", func := "escritoire/escritoirelaw23.MoveSpans", spec := "moveSpans", inPlace := ["internal/bytealg.IndexByte"], unfollowed := true, recurses := true, apart := false, narrowed := true }
def MoveSpansUptoSaid : Prop := moveSpansUptoRow.holds Try.pinned (OpenSpec.upto moveSpansSpec)

end Rows
end Go.Proofs.Ytiibjehnlphabaa
