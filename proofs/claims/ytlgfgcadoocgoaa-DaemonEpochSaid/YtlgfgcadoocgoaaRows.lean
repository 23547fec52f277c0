/-
  No cell of these rows narrows 'for every input' (looked for: loops, veiled, ifaces, maps, wideKeys, modest, calm, conditions, laid).
  DERIVED. THE GIVEN ROWS OF THIS SEAT. 5 by the template 'for every input the law returns true; each argument reads behind the call as it read before'; 0 by the template 'total and deterministic' (their statements: YtlgfgcadoocgoaaTotals.lean).
  GIVEN WITH THE SEED: the statements are not yours to turn. If you find one false, say at which input.
  Laid BY PROGRAM, IN A SANDBOX (cutbox-rows.mjs): the forced cells as the released guide's own fill.sh prints them over the translation c1dd5b13058d13e2… (all of the seat's roots in one cut). By AI agents, Wed Nov 11 2026. No macro, syntax, notation, axiom, sorry.
-/
import Derived.Test.YtlgfgcadoocgoaaChecked
import GoSem.Claim
import GoSem.ClaimJoined
import GoSem.ClaimMapViews
import Derived.JoinedTies
import Derived.KernelRfl
namespace Go.Proofs.Ytlgfgcadoocgoaa
/- THE CELL 'sum', in the pinned program and in every row, IS THE sha256 OF THE DUMP (.gsa) THAT YtlgfgcadoocgoaaProg.lean LOADS. Nothing in Lean hashes anything: it is a label: what it is worth is what the hold of that sum in a sandbox is worth. -/
noncomputable def Try.pinned : Pinned := { name := "ytlgfgcadoocgoaa", sum := "c1dd5b13058d13e2375acdedd40d3dd335b707f3ddd40589bbf93e74b03a9a46", checked := Try.checked }
namespace Rows
def none {H : Type} : Left H := { results := [], args := [] }

/-- 'musterlaw37.NetTaken': WHATEVER THE INPUT: true; the input reads as it did. -/
def netTakenSpec : ChangeSpec := { name := "netTaken", fn := fun _ => fun
  | [d1, d2] => { results := [.lit (.bool true)], args := [d1, d2] }
  | _ => none }
def netTakenRow : OpenClaim := { program := "ytlgfgcadoocgoaa", sum := "c1dd5b13058d13e2375acdedd40d3dd335b707f3ddd40589bbf93e74b03a9a46", func := "muster/musterlaw37.NetTaken", spec := "netTaken", apart := false }
def NetTakenSaid : Prop := netTakenRow.holds Try.pinned (OpenSpec.ofChange netTakenSpec)

/-- ITS FALSE NEIGHBOUR: 'it returns false'. Refute it at one input. -/
def netTakenWrong : ChangeSpec := { name := "netTaken", fn := fun _ => fun
  | [d1, d2] => { results := [.lit (.bool false)], args := [d1, d2] }
  | _ => none }
def NetTakenWrongFalsely : Prop := netTakenRow.holds Try.pinned (OpenSpec.ofChange netTakenWrong)

/-- 'musterlaw37.NetCounts': WHATEVER THE INPUT: true; the input reads as it did. -/
def netCountsSpec : ChangeSpec := { name := "netCounts", fn := fun _ => fun
  | [d1, d2, d3] => { results := [.lit (.bool true)], args := [d1, d2, d3] }
  | _ => none }
def netCountsRow : OpenClaim := { program := "ytlgfgcadoocgoaa", sum := "c1dd5b13058d13e2375acdedd40d3dd335b707f3ddd40589bbf93e74b03a9a46", func := "muster/musterlaw37.NetCounts", spec := "netCounts", apart := false }
def NetCountsSaid : Prop := netCountsRow.holds Try.pinned (OpenSpec.ofChange netCountsSpec)

/-- ITS FALSE NEIGHBOUR: 'it returns false'. Refute it at one input. -/
def netCountsWrong : ChangeSpec := { name := "netCounts", fn := fun _ => fun
  | [d1, d2, d3] => { results := [.lit (.bool false)], args := [d1, d2, d3] }
  | _ => none }
def NetCountsWrongFalsely : Prop := netCountsRow.holds Try.pinned (OpenSpec.ofChange netCountsWrong)

/-- 'musterlaw36.DaemonTurns': WHATEVER THE INPUT: true; the input reads as it did. -/
def daemonTurnsSpec : ChangeSpec := { name := "daemonTurns", fn := fun _ => fun
  | [d1, d2, d3] => { results := [.lit (.bool true)], args := [d1, d2, d3] }
  | _ => none }
def daemonTurnsRow : OpenClaim := { program := "ytlgfgcadoocgoaa", sum := "c1dd5b13058d13e2375acdedd40d3dd335b707f3ddd40589bbf93e74b03a9a46", func := "muster/musterlaw36.DaemonTurns", spec := "daemonTurns", unfollowed := true, recurses := true, apart := false }
def DaemonTurnsSaid : Prop := daemonTurnsRow.holds Try.pinned (OpenSpec.ofChange daemonTurnsSpec)

/-- ITS FALSE NEIGHBOUR: 'it returns false'. Refute it at one input. -/
def daemonTurnsWrong : ChangeSpec := { name := "daemonTurns", fn := fun _ => fun
  | [d1, d2, d3] => { results := [.lit (.bool false)], args := [d1, d2, d3] }
  | _ => none }
def DaemonTurnsWrongFalsely : Prop := daemonTurnsRow.holds Try.pinned (OpenSpec.ofChange daemonTurnsWrong)

/-- 'musterlaw36.DaemonEpoch': WHATEVER THE INPUT: true; the input reads as it did. -/
def daemonEpochSpec : ChangeSpec := { name := "daemonEpoch", fn := fun _ => fun
  | [d1, d2, d3] => { results := [.lit (.bool true)], args := [d1, d2, d3] }
  | _ => none }
def daemonEpochRow : OpenClaim := { program := "ytlgfgcadoocgoaa", sum := "c1dd5b13058d13e2375acdedd40d3dd335b707f3ddd40589bbf93e74b03a9a46", func := "muster/musterlaw36.DaemonEpoch", spec := "daemonEpoch", unfollowed := true, recurses := true, apart := false }
def DaemonEpochSaid : Prop := daemonEpochRow.holds Try.pinned (OpenSpec.ofChange daemonEpochSpec)

/-- ITS FALSE NEIGHBOUR: 'it returns false'. Refute it at one input. -/
def daemonEpochWrong : ChangeSpec := { name := "daemonEpoch", fn := fun _ => fun
  | [d1, d2, d3] => { results := [.lit (.bool false)], args := [d1, d2, d3] }
  | _ => none }
def DaemonEpochWrongFalsely : Prop := daemonEpochRow.holds Try.pinned (OpenSpec.ofChange daemonEpochWrong)

/-- 'musterlaw36.DaemonServes': WHATEVER THE INPUT: true; the input reads as it did. -/
def daemonServesSpec : ChangeSpec := { name := "daemonServes", fn := fun _ => fun
  | [d1, d2] => { results := [.lit (.bool true)], args := [d1, d2] }
  | _ => none }
def daemonServesRow : OpenClaim := { program := "ytlgfgcadoocgoaa", sum := "c1dd5b13058d13e2375acdedd40d3dd335b707f3ddd40589bbf93e74b03a9a46", func := "muster/musterlaw36.DaemonServes", spec := "daemonServes", unfollowed := true, recurses := true, apart := false }
def DaemonServesSaid : Prop := daemonServesRow.holds Try.pinned (OpenSpec.ofChange daemonServesSpec)

/-- ITS FALSE NEIGHBOUR: 'it returns false'. Refute it at one input. -/
def daemonServesWrong : ChangeSpec := { name := "daemonServes", fn := fun _ => fun
  | [d1, d2] => { results := [.lit (.bool false)], args := [d1, d2] }
  | _ => none }
def DaemonServesWrongFalsely : Prop := daemonServesRow.holds Try.pinned (OpenSpec.ofChange daemonServesWrong)

/- THE SECOND FORM. 'bulk': how many values and letters a reading holds, each counted each time it is reached (what is shared counts as often as it is met; a slice's spare places count too). A statement '..UptoSaid' is the law's where the arguments, and the package variables that the reading takes, are together of bulk at most 1048576: NARROWER than '..Said'. Prove '..Said' where nothing that the law and all that it calls make is longer than what came in: it says more and counts as full. Else prove '..UptoSaid'. A law counts once. -/
mutual
def uptoBulk {H : Type} : DataW H → Nat
  | .lit (.string bytes) => bytes.length + 1
  | .lit _ => 1
  | .nil => 1
  | .ptr d => uptoBulk d + 1
  | .slice elems spare => uptoBulkAll elems + uptoBulkAll spare + 1
  | .agg parts => uptoBulkAll parts + 1
  | .iface _ d => uptoBulk d + 1
  | .map entries => uptoBulkEntries entries + 1
  | .held _ => 1
def uptoBulkAll {H : Type} : List (DataW H) → Nat
  | [] => 0
  | d :: r => uptoBulk d + uptoBulkAll r
def uptoBulkEntries {H : Type} : List (Lit × DataW H) → Nat
  | [] => 0
  | x :: r => uptoBulkEntry x + uptoBulkEntries r
def uptoBulkEntry {H : Type} : Lit × DataW H → Nat
  | (.string bytes, d) => bytes.length + uptoBulk d + 1
  | (_, d) => uptoBulk d + 1
 end
def uptoSmall : (H : Type) → List (DataW H) → Bool := fun _ ds => decide (uptoBulkAll ds ≤ 1048576)
def OpenSpec.upto (s : _root_.Go.ChangeSpec) : _root_.Go.OpenSpec := { _root_.Go.OpenSpec.ofChange s with cond := some uptoSmall }

/-- 'musterlaw37.NetTaken', WHERE WHAT IT READS IS OF BULK AT MOST 1048576: true; the input reads as it did. -/
def netTakenUptoRow : OpenClaim := { program := "ytlgfgcadoocgoaa", sum := "c1dd5b13058d13e2375acdedd40d3dd335b707f3ddd40589bbf93e74b03a9a46", func := "muster/musterlaw37.NetTaken", spec := "netTaken", apart := false, narrowed := true }
def NetTakenUptoSaid : Prop := netTakenUptoRow.holds Try.pinned (OpenSpec.upto netTakenSpec)

/-- 'musterlaw37.NetCounts', WHERE WHAT IT READS IS OF BULK AT MOST 1048576: true; the input reads as it did. -/
def netCountsUptoRow : OpenClaim := { program := "ytlgfgcadoocgoaa", sum := "c1dd5b13058d13e2375acdedd40d3dd335b707f3ddd40589bbf93e74b03a9a46", func := "muster/musterlaw37.NetCounts", spec := "netCounts", apart := false, narrowed := true }
def NetCountsUptoSaid : Prop := netCountsUptoRow.holds Try.pinned (OpenSpec.upto netCountsSpec)

/-- 'musterlaw36.DaemonTurns', WHERE WHAT IT READS IS OF BULK AT MOST 1048576: true; the input reads as it did. -/
def daemonTurnsUptoRow : OpenClaim := { program := "ytlgfgcadoocgoaa", sum := "c1dd5b13058d13e2375acdedd40d3dd335b707f3ddd40589bbf93e74b03a9a46", func := "muster/musterlaw36.DaemonTurns", spec := "daemonTurns", unfollowed := true, recurses := true, apart := false, narrowed := true }
def DaemonTurnsUptoSaid : Prop := daemonTurnsUptoRow.holds Try.pinned (OpenSpec.upto daemonTurnsSpec)

/-- 'musterlaw36.DaemonEpoch', WHERE WHAT IT READS IS OF BULK AT MOST 1048576: true; the input reads as it did. -/
def daemonEpochUptoRow : OpenClaim := { program := "ytlgfgcadoocgoaa", sum := "c1dd5b13058d13e2375acdedd40d3dd335b707f3ddd40589bbf93e74b03a9a46", func := "muster/musterlaw36.DaemonEpoch", spec := "daemonEpoch", unfollowed := true, recurses := true, apart := false, narrowed := true }
def DaemonEpochUptoSaid : Prop := daemonEpochUptoRow.holds Try.pinned (OpenSpec.upto daemonEpochSpec)

/-- 'musterlaw36.DaemonServes', WHERE WHAT IT READS IS OF BULK AT MOST 1048576: true; the input reads as it did. -/
def daemonServesUptoRow : OpenClaim := { program := "ytlgfgcadoocgoaa", sum := "c1dd5b13058d13e2375acdedd40d3dd335b707f3ddd40589bbf93e74b03a9a46", func := "muster/musterlaw36.DaemonServes", spec := "daemonServes", unfollowed := true, recurses := true, apart := false, narrowed := true }
def DaemonServesUptoSaid : Prop := daemonServesUptoRow.holds Try.pinned (OpenSpec.upto daemonServesSpec)

end Rows
end Go.Proofs.Ytlgfgcadoocgoaa
