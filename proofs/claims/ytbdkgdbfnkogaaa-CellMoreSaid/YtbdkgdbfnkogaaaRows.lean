/-
  No cell of these rows narrows 'for every input' (looked for: loops, veiled, ifaces, maps, wideKeys, modest, calm, conditions, laid).
  DERIVED. THE GIVEN ROWS OF THIS SEAT. 7 by the template 'for every input the law returns true; each argument reads behind the call as it read before'; 0 by the template 'total and deterministic' (their statements: YtbdkgdbfnkogaaaTotals.lean).
  GIVEN WITH THE SEED: the statements are not yours to turn. If you find one false, say at which input.
  Laid BY PROGRAM, IN A SANDBOX (cutbox-rows.mjs): the forced cells as the released guide's own fill.sh prints them over the translation 6c172025db443ef0… (all of the seat's roots in one cut). By AI agents, Wed Nov 11 2026. No macro, syntax, notation, axiom, sorry.
-/
import Derived.Test.YtbdkgdbfnkogaaaChecked
import GoSem.Claim
import GoSem.ClaimJoined
import GoSem.ClaimMapViews
import Derived.JoinedTies
import Derived.KernelRfl
namespace Go.Proofs.Ytbdkgdbfnkogaaa
/- THE CELL 'sum', in the pinned program and in every row, IS THE sha256 OF THE DUMP (.gsa) THAT YtbdkgdbfnkogaaaProg.lean LOADS. Nothing in Lean hashes anything: it is a label: what it is worth is what the hold of that sum in a sandbox is worth. -/
noncomputable def Try.pinned : Pinned := { name := "ytbdkgdbfnkogaaa", sum := "6c172025db443ef006a4cd716312400b4a2afb1be2086d39a97f8f40a721180b", checked := Try.checked }
namespace Rows
def none {H : Type} : Left H := { results := [], args := [] }

/-- 'wayfinderlaw04.RankKeeps': WHATEVER THE INPUT: true; the input reads as it did. -/
def rankKeepsSpec : ChangeSpec := { name := "rankKeeps", fn := fun _ => fun
  | [d1, d2] => { results := [.lit (.bool true)], args := [d1, d2] }
  | _ => none }
def rankKeepsRow : OpenClaim := { program := "ytbdkgdbfnkogaaa", sum := "6c172025db443ef006a4cd716312400b4a2afb1be2086d39a97f8f40a721180b", func := "wayfinder/wayfinderlaw04.RankKeeps", spec := "rankKeeps", unfollowed := true, recurses := true, plainKeys := false, apart := false }
def RankKeepsSaid : Prop := rankKeepsRow.holds Try.pinned (OpenSpec.ofChange rankKeepsSpec)

/-- ITS FALSE NEIGHBOUR: 'it returns false'. Refute it at one input. -/
def rankKeepsWrong : ChangeSpec := { name := "rankKeeps", fn := fun _ => fun
  | [d1, d2] => { results := [.lit (.bool false)], args := [d1, d2] }
  | _ => none }
def RankKeepsWrongFalsely : Prop := rankKeepsRow.holds Try.pinned (OpenSpec.ofChange rankKeepsWrong)

/-- 'wayfinderlaw04.RankMerges': WHATEVER THE INPUT: true; the input reads as it did. -/
def rankMergesSpec : ChangeSpec := { name := "rankMerges", fn := fun _ => fun
  | [d1, d2, d3] => { results := [.lit (.bool true)], args := [d1, d2, d3] }
  | _ => none }
def rankMergesRow : OpenClaim := { program := "ytbdkgdbfnkogaaa", sum := "6c172025db443ef006a4cd716312400b4a2afb1be2086d39a97f8f40a721180b", func := "wayfinder/wayfinderlaw04.RankMerges", spec := "rankMerges", unfollowed := true, recurses := true, plainKeys := false, apart := false }
def RankMergesSaid : Prop := rankMergesRow.holds Try.pinned (OpenSpec.ofChange rankMergesSpec)

/-- ITS FALSE NEIGHBOUR: 'it returns false'. Refute it at one input. -/
def rankMergesWrong : ChangeSpec := { name := "rankMerges", fn := fun _ => fun
  | [d1, d2, d3] => { results := [.lit (.bool false)], args := [d1, d2, d3] }
  | _ => none }
def RankMergesWrongFalsely : Prop := rankMergesRow.holds Try.pinned (OpenSpec.ofChange rankMergesWrong)

/-- 'wayfinderlaw04.RankCalls': WHATEVER THE INPUT: true; the input reads as it did. -/
def rankCallsSpec : ChangeSpec := { name := "rankCalls", fn := fun _ => fun
  | [d1, d2, d3, d4] => { results := [.lit (.bool true)], args := [d1, d2, d3, d4] }
  | _ => none }
def rankCallsRow : OpenClaim := { program := "ytbdkgdbfnkogaaa", sum := "6c172025db443ef006a4cd716312400b4a2afb1be2086d39a97f8f40a721180b", func := "wayfinder/wayfinderlaw04.RankCalls", spec := "rankCalls", unfollowed := true, recurses := true, plainKeys := false, apart := false }
def RankCallsSaid : Prop := rankCallsRow.holds Try.pinned (OpenSpec.ofChange rankCallsSpec)

/-- ITS FALSE NEIGHBOUR: 'it returns false'. Refute it at one input. -/
def rankCallsWrong : ChangeSpec := { name := "rankCalls", fn := fun _ => fun
  | [d1, d2, d3, d4] => { results := [.lit (.bool false)], args := [d1, d2, d3, d4] }
  | _ => none }
def RankCallsWrongFalsely : Prop := rankCallsRow.holds Try.pinned (OpenSpec.ofChange rankCallsWrong)

/-- 'wayfinderlaw13.CellNearest': WHATEVER THE INPUT: true; the input reads as it did. -/
def cellNearestSpec : ChangeSpec := { name := "cellNearest", fn := fun _ => fun
  | [d1, d2, d3, d4] => { results := [.lit (.bool true)], args := [d1, d2, d3, d4] }
  | _ => none }
def cellNearestRow : OpenClaim := { program := "ytbdkgdbfnkogaaa", sum := "6c172025db443ef006a4cd716312400b4a2afb1be2086d39a97f8f40a721180b", func := "wayfinder/wayfinderlaw13.CellNearest", spec := "cellNearest", unfollowed := true, recurses := true, plainKeys := false, apart := false }
def CellNearestSaid : Prop := cellNearestRow.holds Try.pinned (OpenSpec.ofChange cellNearestSpec)

/-- ITS FALSE NEIGHBOUR: 'it returns false'. Refute it at one input. -/
def cellNearestWrong : ChangeSpec := { name := "cellNearest", fn := fun _ => fun
  | [d1, d2, d3, d4] => { results := [.lit (.bool false)], args := [d1, d2, d3, d4] }
  | _ => none }
def CellNearestWrongFalsely : Prop := cellNearestRow.holds Try.pinned (OpenSpec.ofChange cellNearestWrong)

/-- 'wayfinderlaw13.CellMore': WHATEVER THE INPUT: true; the input reads as it did. -/
def cellMoreSpec : ChangeSpec := { name := "cellMore", fn := fun _ => fun
  | [d1, d2, d3] => { results := [.lit (.bool true)], args := [d1, d2, d3] }
  | _ => none }
def cellMoreRow : OpenClaim := { program := "ytbdkgdbfnkogaaa", sum := "6c172025db443ef006a4cd716312400b4a2afb1be2086d39a97f8f40a721180b", func := "wayfinder/wayfinderlaw13.CellMore", spec := "cellMore", unfollowed := true, recurses := true, plainKeys := false, apart := false }
def CellMoreSaid : Prop := cellMoreRow.holds Try.pinned (OpenSpec.ofChange cellMoreSpec)

/-- ITS FALSE NEIGHBOUR: 'it returns false'. Refute it at one input. -/
def cellMoreWrong : ChangeSpec := { name := "cellMore", fn := fun _ => fun
  | [d1, d2, d3] => { results := [.lit (.bool false)], args := [d1, d2, d3] }
  | _ => none }
def CellMoreWrongFalsely : Prop := cellMoreRow.holds Try.pinned (OpenSpec.ofChange cellMoreWrong)

/-- 'wayfinderlaw13.CellCalls': WHATEVER THE INPUT: true; the input reads as it did. -/
def cellCallsSpec : ChangeSpec := { name := "cellCalls", fn := fun _ => fun
  | [d1, d2, d3, d4, d5] => { results := [.lit (.bool true)], args := [d1, d2, d3, d4, d5] }
  | _ => none }
def cellCallsRow : OpenClaim := { program := "ytbdkgdbfnkogaaa", sum := "6c172025db443ef006a4cd716312400b4a2afb1be2086d39a97f8f40a721180b", func := "wayfinder/wayfinderlaw13.CellCalls", spec := "cellCalls", unfollowed := true, recurses := true, plainKeys := false, apart := false }
def CellCallsSaid : Prop := cellCallsRow.holds Try.pinned (OpenSpec.ofChange cellCallsSpec)

/-- ITS FALSE NEIGHBOUR: 'it returns false'. Refute it at one input. -/
def cellCallsWrong : ChangeSpec := { name := "cellCalls", fn := fun _ => fun
  | [d1, d2, d3, d4, d5] => { results := [.lit (.bool false)], args := [d1, d2, d3, d4, d5] }
  | _ => none }
def CellCallsWrongFalsely : Prop := cellCallsRow.holds Try.pinned (OpenSpec.ofChange cellCallsWrong)

/-- 'wayfinderlaw13.CellBack': WHATEVER THE INPUT: true; the input reads as it did. -/
def cellBackSpec : ChangeSpec := { name := "cellBack", fn := fun _ => fun
  | [d1, d2, d3] => { results := [.lit (.bool true)], args := [d1, d2, d3] }
  | _ => none }
def cellBackRow : OpenClaim := { program := "ytbdkgdbfnkogaaa", sum := "6c172025db443ef006a4cd716312400b4a2afb1be2086d39a97f8f40a721180b", func := "wayfinder/wayfinderlaw13.CellBack", spec := "cellBack", unfollowed := true, recurses := true, plainKeys := false, apart := false }
def CellBackSaid : Prop := cellBackRow.holds Try.pinned (OpenSpec.ofChange cellBackSpec)

/-- ITS FALSE NEIGHBOUR: 'it returns false'. Refute it at one input. -/
def cellBackWrong : ChangeSpec := { name := "cellBack", fn := fun _ => fun
  | [d1, d2, d3] => { results := [.lit (.bool false)], args := [d1, d2, d3] }
  | _ => none }
def CellBackWrongFalsely : Prop := cellBackRow.holds Try.pinned (OpenSpec.ofChange cellBackWrong)

/- THE SECOND FORM. 'bulk': how many values and letters a reading holds, each counted each time it is reached (what is shared counts as often as it is met; a slice's spare places count too). A statement '..UptoSaid' is the law's where the arguments, and the package variables that the reading takes, are together of bulk at most 1048576: NARROWER than '..Said'. Prove '..Said' where nothing that the law and all that it calls make is longer than what came in: it says more and counts as full. Else prove '..UptoSaid'. A law counts once. -/
mutual
def uptoBulk {H : Type} : DataW H → Nat
  | .lit (.string bytes) => bytes.length + 1
  | .lit _ => 1
  | .nil => 1
  | .ptr d => uptoBulk d + 1
  | .slice elems spare => uptoBulkAll elems + uptoBulkAll spare + 1
  | .agg parts => uptoBulkAll parts + 1
  | .iface _ d => uptoBulk d + 1
  | .map entries => uptoBulkEntries entries + 1
  | .held _ => 1
def uptoBulkAll {H : Type} : List (DataW H) → Nat
  | [] => 0
  | d :: r => uptoBulk d + uptoBulkAll r
def uptoBulkEntries {H : Type} : List (Lit × DataW H) → Nat
  | [] => 0
  | x :: r => uptoBulkEntry x + uptoBulkEntries r
def uptoBulkEntry {H : Type} : Lit × DataW H → Nat
  | (.string bytes, d) => bytes.length + uptoBulk d + 1
  | (_, d) => uptoBulk d + 1
 end
def uptoSmall : (H : Type) → List (DataW H) → Bool := fun _ ds => decide (uptoBulkAll ds ≤ 1048576)
def OpenSpec.upto (s : _root_.Go.ChangeSpec) : _root_.Go.OpenSpec := { _root_.Go.OpenSpec.ofChange s with cond := some uptoSmall }

/-- 'wayfinderlaw04.RankKeeps', WHERE WHAT IT READS IS OF BULK AT MOST 1048576: true; the input reads as it did. -/
def rankKeepsUptoRow : OpenClaim := { program := "ytbdkgdbfnkogaaa", sum := "6c172025db443ef006a4cd716312400b4a2afb1be2086d39a97f8f40a721180b", func := "wayfinder/wayfinderlaw04.RankKeeps", spec := "rankKeeps", unfollowed := true, recurses := true, plainKeys := false, apart := false, narrowed := true }
def RankKeepsUptoSaid : Prop := rankKeepsUptoRow.holds Try.pinned (OpenSpec.upto rankKeepsSpec)

/-- 'wayfinderlaw04.RankMerges', WHERE WHAT IT READS IS OF BULK AT MOST 1048576: true; the input reads as it did. -/
def rankMergesUptoRow : OpenClaim := { program := "ytbdkgdbfnkogaaa", sum := "6c172025db443ef006a4cd716312400b4a2afb1be2086d39a97f8f40a721180b", func := "wayfinder/wayfinderlaw04.RankMerges", spec := "rankMerges", unfollowed := true, recurses := true, plainKeys := false, apart := false, narrowed := true }
def RankMergesUptoSaid : Prop := rankMergesUptoRow.holds Try.pinned (OpenSpec.upto rankMergesSpec)

/-- 'wayfinderlaw04.RankCalls', WHERE WHAT IT READS IS OF BULK AT MOST 1048576: true; the input reads as it did. -/
def rankCallsUptoRow : OpenClaim := { program := "ytbdkgdbfnkogaaa", sum := "6c172025db443ef006a4cd716312400b4a2afb1be2086d39a97f8f40a721180b", func := "wayfinder/wayfinderlaw04.RankCalls", spec := "rankCalls", unfollowed := true, recurses := true, plainKeys := false, apart := false, narrowed := true }
def RankCallsUptoSaid : Prop := rankCallsUptoRow.holds Try.pinned (OpenSpec.upto rankCallsSpec)

/-- 'wayfinderlaw13.CellNearest', WHERE WHAT IT READS IS OF BULK AT MOST 1048576: true; the input reads as it did. -/
def cellNearestUptoRow : OpenClaim := { program := "ytbdkgdbfnkogaaa", sum := "6c172025db443ef006a4cd716312400b4a2afb1be2086d39a97f8f40a721180b", func := "wayfinder/wayfinderlaw13.CellNearest", spec := "cellNearest", unfollowed := true, recurses := true, plainKeys := false, apart := false, narrowed := true }
def CellNearestUptoSaid : Prop := cellNearestUptoRow.holds Try.pinned (OpenSpec.upto cellNearestSpec)

/-- 'wayfinderlaw13.CellMore', WHERE WHAT IT READS IS OF BULK AT MOST 1048576: true; the input reads as it did. -/
def cellMoreUptoRow : OpenClaim := { program := "ytbdkgdbfnkogaaa", sum := "6c172025db443ef006a4cd716312400b4a2afb1be2086d39a97f8f40a721180b", func := "wayfinder/wayfinderlaw13.CellMore", spec := "cellMore", unfollowed := true, recurses := true, plainKeys := false, apart := false, narrowed := true }
def CellMoreUptoSaid : Prop := cellMoreUptoRow.holds Try.pinned (OpenSpec.upto cellMoreSpec)

/-- 'wayfinderlaw13.CellCalls', WHERE WHAT IT READS IS OF BULK AT MOST 1048576: true; the input reads as it did. -/
def cellCallsUptoRow : OpenClaim := { program := "ytbdkgdbfnkogaaa", sum := "6c172025db443ef006a4cd716312400b4a2afb1be2086d39a97f8f40a721180b", func := "wayfinder/wayfinderlaw13.CellCalls", spec := "cellCalls", unfollowed := true, recurses := true, plainKeys := false, apart := false, narrowed := true }
def CellCallsUptoSaid : Prop := cellCallsUptoRow.holds Try.pinned (OpenSpec.upto cellCallsSpec)

/-- 'wayfinderlaw13.CellBack', WHERE WHAT IT READS IS OF BULK AT MOST 1048576: true; the input reads as it did. -/
def cellBackUptoRow : OpenClaim := { program := "ytbdkgdbfnkogaaa", sum := "6c172025db443ef006a4cd716312400b4a2afb1be2086d39a97f8f40a721180b", func := "wayfinder/wayfinderlaw13.CellBack", spec := "cellBack", unfollowed := true, recurses := true, plainKeys := false, apart := false, narrowed := true }
def CellBackUptoSaid : Prop := cellBackUptoRow.holds Try.pinned (OpenSpec.upto cellBackSpec)

end Rows
end Go.Proofs.Ytbdkgdbfnkogaaa
