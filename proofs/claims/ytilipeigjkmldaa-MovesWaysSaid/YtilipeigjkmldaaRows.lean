/-
  No cell of these rows narrows 'for every input' (looked for: loops, veiled, ifaces, maps, wideKeys, modest, calm, conditions, laid).
  DERIVED. THE GIVEN ROWS OF THIS SEAT. 8 by the template 'for every input the law returns true; each argument reads behind the call as it read before'; 0 by the template 'total and deterministic' (their statements: YtilipeigjkmldaaTotals.lean).
  GIVEN WITH THE SEED: the statements are not yours to turn. If you find one false, say at which input.
  Laid BY PROGRAM, IN A SANDBOX (cutbox-rows.mjs): the forced cells as the released guide's own fill.sh prints them over the translation 36649474fffb50a5… (all of the seat's roots in one cut). By AI agents, Wed Nov 11 2026. No macro, syntax, notation, axiom, sorry.
-/
import Derived.Test.YtilipeigjkmldaaChecked
import GoSem.Claim
import GoSem.ClaimJoined
import GoSem.ClaimMapViews
import Derived.JoinedTies
import Derived.KernelRfl
namespace Go.Proofs.Ytilipeigjkmldaa
/- THE CELL 'sum', in the pinned program and in every row, IS THE sha256 OF THE DUMP (.gsa) THAT YtilipeigjkmldaaProg.lean LOADS. Nothing in Lean hashes anything: it is a label: what it is worth is what the hold of that sum in a sandbox is worth. -/
noncomputable def Try.pinned : Pinned := { name := "ytilipeigjkmldaa", sum := "36649474fffb50a52c223c16a63a4c7ea92bf8bcaf1d86fff98234cdd6596f4a", checked := Try.checked }
namespace Rows
def none {H : Type} : Left H := { results := [], args := [] }

/-- 'chattellaw20.LiveAt': WHATEVER THE INPUT: true; the input reads as it did. -/
def liveAtSpec : ChangeSpec := { name := "liveAt", fn := fun _ => fun
  | [d] => { results := [.lit (.bool true)], args := [d] }
  | _ => none }
def liveAtRow : OpenClaim := { program := "ytilipeigjkmldaa", sum := "36649474fffb50a52c223c16a63a4c7ea92bf8bcaf1d86fff98234cdd6596f4a", func := "chattel/chattellaw20.LiveAt", spec := "liveAt", unfollowed := true, recurses := true, apart := false }
def LiveAtSaid : Prop := liveAtRow.holds Try.pinned (OpenSpec.ofChange liveAtSpec)

/-- ITS FALSE NEIGHBOUR: 'it returns false'. Refute it at one input. -/
def liveAtWrong : ChangeSpec := { name := "liveAt", fn := fun _ => fun
  | [d] => { results := [.lit (.bool false)], args := [d] }
  | _ => none }
def LiveAtWrongFalsely : Prop := liveAtRow.holds Try.pinned (OpenSpec.ofChange liveAtWrong)

/-- 'chattellaw20.LiveWays': WHATEVER THE INPUT: true; the input reads as it did. -/
def liveWaysSpec : ChangeSpec := { name := "liveWays", fn := fun _ => fun
  | [d] => { results := [.lit (.bool true)], args := [d] }
  | _ => none }
def liveWaysRow : OpenClaim := { program := "ytilipeigjkmldaa", sum := "36649474fffb50a52c223c16a63a4c7ea92bf8bcaf1d86fff98234cdd6596f4a", func := "chattel/chattellaw20.LiveWays", spec := "liveWays", unfollowed := true, recurses := true, apart := false }
def LiveWaysSaid : Prop := liveWaysRow.holds Try.pinned (OpenSpec.ofChange liveWaysSpec)

/-- ITS FALSE NEIGHBOUR: 'it returns false'. Refute it at one input. -/
def liveWaysWrong : ChangeSpec := { name := "liveWays", fn := fun _ => fun
  | [d] => { results := [.lit (.bool false)], args := [d] }
  | _ => none }
def LiveWaysWrongFalsely : Prop := liveWaysRow.holds Try.pinned (OpenSpec.ofChange liveWaysWrong)

/-- 'chattellaw20.LiveUses': WHATEVER THE INPUT: true; the input reads as it did. -/
def liveUsesSpec : ChangeSpec := { name := "liveUses", fn := fun _ => fun
  | [d1, d2, d3] => { results := [.lit (.bool true)], args := [d1, d2, d3] }
  | _ => none }
def liveUsesRow : OpenClaim := { program := "ytilipeigjkmldaa", sum := "36649474fffb50a52c223c16a63a4c7ea92bf8bcaf1d86fff98234cdd6596f4a", func := "chattel/chattellaw20.LiveUses", spec := "liveUses", unfollowed := true, recurses := true, apart := false }
def LiveUsesSaid : Prop := liveUsesRow.holds Try.pinned (OpenSpec.ofChange liveUsesSpec)

/-- ITS FALSE NEIGHBOUR: 'it returns false'. Refute it at one input. -/
def liveUsesWrong : ChangeSpec := { name := "liveUses", fn := fun _ => fun
  | [d1, d2, d3] => { results := [.lit (.bool false)], args := [d1, d2, d3] }
  | _ => none }
def LiveUsesWrongFalsely : Prop := liveUsesRow.holds Try.pinned (OpenSpec.ofChange liveUsesWrong)

/-- 'chattellaw20.LiveBad': WHATEVER THE INPUT: true; the input reads as it did. -/
def liveBadSpec : ChangeSpec := { name := "liveBad", fn := fun _ => fun
  | [d1, d2] => { results := [.lit (.bool true)], args := [d1, d2] }
  | _ => none }
def liveBadRow : OpenClaim := { program := "ytilipeigjkmldaa", sum := "36649474fffb50a52c223c16a63a4c7ea92bf8bcaf1d86fff98234cdd6596f4a", func := "chattel/chattellaw20.LiveBad", spec := "liveBad", unfollowed := true, recurses := true, apart := false }
def LiveBadSaid : Prop := liveBadRow.holds Try.pinned (OpenSpec.ofChange liveBadSpec)

/-- ITS FALSE NEIGHBOUR: 'it returns false'. Refute it at one input. -/
def liveBadWrong : ChangeSpec := { name := "liveBad", fn := fun _ => fun
  | [d1, d2] => { results := [.lit (.bool false)], args := [d1, d2] }
  | _ => none }
def LiveBadWrongFalsely : Prop := liveBadRow.holds Try.pinned (OpenSpec.ofChange liveBadWrong)

/-- 'chattellaw19.MovesChecks': WHATEVER THE INPUT: true; the input reads as it did. -/
def movesChecksSpec : ChangeSpec := { name := "movesChecks", fn := fun _ => fun
  | [d] => { results := [.lit (.bool true)], args := [d] }
  | _ => none }
def movesChecksRow : OpenClaim := { program := "ytilipeigjkmldaa", sum := "36649474fffb50a52c223c16a63a4c7ea92bf8bcaf1d86fff98234cdd6596f4a", func := "chattel/chattellaw19.MovesChecks", spec := "movesChecks", unfollowed := true, recurses := true, apart := false }
def MovesChecksSaid : Prop := movesChecksRow.holds Try.pinned (OpenSpec.ofChange movesChecksSpec)

/-- ITS FALSE NEIGHBOUR: 'it returns false'. Refute it at one input. -/
def movesChecksWrong : ChangeSpec := { name := "movesChecks", fn := fun _ => fun
  | [d] => { results := [.lit (.bool false)], args := [d] }
  | _ => none }
def MovesChecksWrongFalsely : Prop := movesChecksRow.holds Try.pinned (OpenSpec.ofChange movesChecksWrong)

/-- 'chattellaw19.MovesWays': WHATEVER THE INPUT: true; the input reads as it did. -/
def movesWaysSpec : ChangeSpec := { name := "movesWays", fn := fun _ => fun
  | [d] => { results := [.lit (.bool true)], args := [d] }
  | _ => none }
def movesWaysRow : OpenClaim := { program := "ytilipeigjkmldaa", sum := "36649474fffb50a52c223c16a63a4c7ea92bf8bcaf1d86fff98234cdd6596f4a", func := "chattel/chattellaw19.MovesWays", spec := "movesWays", unfollowed := true, recurses := true, apart := false }
def MovesWaysSaid : Prop := movesWaysRow.holds Try.pinned (OpenSpec.ofChange movesWaysSpec)

/-- ITS FALSE NEIGHBOUR: 'it returns false'. Refute it at one input. -/
def movesWaysWrong : ChangeSpec := { name := "movesWays", fn := fun _ => fun
  | [d] => { results := [.lit (.bool false)], args := [d] }
  | _ => none }
def MovesWaysWrongFalsely : Prop := movesWaysRow.holds Try.pinned (OpenSpec.ofChange movesWaysWrong)

/-- 'chattellaw19.MovesMissing': WHATEVER THE INPUT: true; the input reads as it did. -/
def movesMissingSpec : ChangeSpec := { name := "movesMissing", fn := fun _ => fun
  | [d] => { results := [.lit (.bool true)], args := [d] }
  | _ => none }
def movesMissingRow : OpenClaim := { program := "ytilipeigjkmldaa", sum := "36649474fffb50a52c223c16a63a4c7ea92bf8bcaf1d86fff98234cdd6596f4a", func := "chattel/chattellaw19.MovesMissing", spec := "movesMissing", unfollowed := true, recurses := true, apart := false }
def MovesMissingSaid : Prop := movesMissingRow.holds Try.pinned (OpenSpec.ofChange movesMissingSpec)

/-- ITS FALSE NEIGHBOUR: 'it returns false'. Refute it at one input. -/
def movesMissingWrong : ChangeSpec := { name := "movesMissing", fn := fun _ => fun
  | [d] => { results := [.lit (.bool false)], args := [d] }
  | _ => none }
def MovesMissingWrongFalsely : Prop := movesMissingRow.holds Try.pinned (OpenSpec.ofChange movesMissingWrong)

/-- 'chattellaw19.MovesBad': WHATEVER THE INPUT: true; the input reads as it did. -/
def movesBadSpec : ChangeSpec := { name := "movesBad", fn := fun _ => fun
  | [d1, d2] => { results := [.lit (.bool true)], args := [d1, d2] }
  | _ => none }
def movesBadRow : OpenClaim := { program := "ytilipeigjkmldaa", sum := "36649474fffb50a52c223c16a63a4c7ea92bf8bcaf1d86fff98234cdd6596f4a", func := "chattel/chattellaw19.MovesBad", spec := "movesBad", unfollowed := true, recurses := true, apart := false }
def MovesBadSaid : Prop := movesBadRow.holds Try.pinned (OpenSpec.ofChange movesBadSpec)

/-- ITS FALSE NEIGHBOUR: 'it returns false'. Refute it at one input. -/
def movesBadWrong : ChangeSpec := { name := "movesBad", fn := fun _ => fun
  | [d1, d2] => { results := [.lit (.bool false)], args := [d1, d2] }
  | _ => none }
def MovesBadWrongFalsely : Prop := movesBadRow.holds Try.pinned (OpenSpec.ofChange movesBadWrong)

/- THE SECOND FORM. 'bulk': how many values and letters a reading holds, each counted each time it is reached (what is shared counts as often as it is met; a slice's spare places count too). A statement '..UptoSaid' is the law's where the arguments, and the package variables that the reading takes, are together of bulk at most 1048576: NARROWER than '..Said'. Prove '..Said' where nothing that the law and all that it calls make is longer than what came in: it says more and counts as full. Else prove '..UptoSaid'. A law counts once. -/
mutual
def uptoBulk {H : Type} : DataW H → Nat
  | .lit (.string bytes) => bytes.length + 1
  | .lit _ => 1
  | .nil => 1
  | .ptr d => uptoBulk d + 1
  | .slice elems spare => uptoBulkAll elems + uptoBulkAll spare + 1
  | .agg parts => uptoBulkAll parts + 1
  | .iface _ d => uptoBulk d + 1
  | .map entries => uptoBulkEntries entries + 1
  | .held _ => 1
def uptoBulkAll {H : Type} : List (DataW H) → Nat
  | [] => 0
  | d :: r => uptoBulk d + uptoBulkAll r
def uptoBulkEntries {H : Type} : List (Lit × DataW H) → Nat
  | [] => 0
  | x :: r => uptoBulkEntry x + uptoBulkEntries r
def uptoBulkEntry {H : Type} : Lit × DataW H → Nat
  | (.string bytes, d) => bytes.length + uptoBulk d + 1
  | (_, d) => uptoBulk d + 1
 end
def uptoSmall : (H : Type) → List (DataW H) → Bool := fun _ ds => decide (uptoBulkAll ds ≤ 1048576)
def OpenSpec.upto (s : _root_.Go.ChangeSpec) : _root_.Go.OpenSpec := { _root_.Go.OpenSpec.ofChange s with cond := some uptoSmall }

/-- 'chattellaw20.LiveAt', WHERE WHAT IT READS IS OF BULK AT MOST 1048576: true; the input reads as it did. -/
def liveAtUptoRow : OpenClaim := { program := "ytilipeigjkmldaa", sum := "36649474fffb50a52c223c16a63a4c7ea92bf8bcaf1d86fff98234cdd6596f4a", func := "chattel/chattellaw20.LiveAt", spec := "liveAt", unfollowed := true, recurses := true, apart := false, narrowed := true }
def LiveAtUptoSaid : Prop := liveAtUptoRow.holds Try.pinned (OpenSpec.upto liveAtSpec)

/-- 'chattellaw20.LiveWays', WHERE WHAT IT READS IS OF BULK AT MOST 1048576: true; the input reads as it did. -/
def liveWaysUptoRow : OpenClaim := { program := "ytilipeigjkmldaa", sum := "36649474fffb50a52c223c16a63a4c7ea92bf8bcaf1d86fff98234cdd6596f4a", func := "chattel/chattellaw20.LiveWays", spec := "liveWays", unfollowed := true, recurses := true, apart := false, narrowed := true }
def LiveWaysUptoSaid : Prop := liveWaysUptoRow.holds Try.pinned (OpenSpec.upto liveWaysSpec)

/-- 'chattellaw20.LiveUses', WHERE WHAT IT READS IS OF BULK AT MOST 1048576: true; the input reads as it did. -/
def liveUsesUptoRow : OpenClaim := { program := "ytilipeigjkmldaa", sum := "36649474fffb50a52c223c16a63a4c7ea92bf8bcaf1d86fff98234cdd6596f4a", func := "chattel/chattellaw20.LiveUses", spec := "liveUses", unfollowed := true, recurses := true, apart := false, narrowed := true }
def LiveUsesUptoSaid : Prop := liveUsesUptoRow.holds Try.pinned (OpenSpec.upto liveUsesSpec)

/-- 'chattellaw20.LiveBad', WHERE WHAT IT READS IS OF BULK AT MOST 1048576: true; the input reads as it did. -/
def liveBadUptoRow : OpenClaim := { program := "ytilipeigjkmldaa", sum := "36649474fffb50a52c223c16a63a4c7ea92bf8bcaf1d86fff98234cdd6596f4a", func := "chattel/chattellaw20.LiveBad", spec := "liveBad", unfollowed := true, recurses := true, apart := false, narrowed := true }
def LiveBadUptoSaid : Prop := liveBadUptoRow.holds Try.pinned (OpenSpec.upto liveBadSpec)

/-- 'chattellaw19.MovesChecks', WHERE WHAT IT READS IS OF BULK AT MOST 1048576: true; the input reads as it did. -/
def movesChecksUptoRow : OpenClaim := { program := "ytilipeigjkmldaa", sum := "36649474fffb50a52c223c16a63a4c7ea92bf8bcaf1d86fff98234cdd6596f4a", func := "chattel/chattellaw19.MovesChecks", spec := "movesChecks", unfollowed := true, recurses := true, apart := false, narrowed := true }
def MovesChecksUptoSaid : Prop := movesChecksUptoRow.holds Try.pinned (OpenSpec.upto movesChecksSpec)

/-- 'chattellaw19.MovesWays', WHERE WHAT IT READS IS OF BULK AT MOST 1048576: true; the input reads as it did. -/
def movesWaysUptoRow : OpenClaim := { program := "ytilipeigjkmldaa", sum := "36649474fffb50a52c223c16a63a4c7ea92bf8bcaf1d86fff98234cdd6596f4a", func := "chattel/chattellaw19.MovesWays", spec := "movesWays", unfollowed := true, recurses := true, apart := false, narrowed := true }
def MovesWaysUptoSaid : Prop := movesWaysUptoRow.holds Try.pinned (OpenSpec.upto movesWaysSpec)

/-- 'chattellaw19.MovesMissing', WHERE WHAT IT READS IS OF BULK AT MOST 1048576: true; the input reads as it did. -/
def movesMissingUptoRow : OpenClaim := { program := "ytilipeigjkmldaa", sum := "36649474fffb50a52c223c16a63a4c7ea92bf8bcaf1d86fff98234cdd6596f4a", func := "chattel/chattellaw19.MovesMissing", spec := "movesMissing", unfollowed := true, recurses := true, apart := false, narrowed := true }
def MovesMissingUptoSaid : Prop := movesMissingUptoRow.holds Try.pinned (OpenSpec.upto movesMissingSpec)

/-- 'chattellaw19.MovesBad', WHERE WHAT IT READS IS OF BULK AT MOST 1048576: true; the input reads as it did. -/
def movesBadUptoRow : OpenClaim := { program := "ytilipeigjkmldaa", sum := "36649474fffb50a52c223c16a63a4c7ea92bf8bcaf1d86fff98234cdd6596f4a", func := "chattel/chattellaw19.MovesBad", spec := "movesBad", unfollowed := true, recurses := true, apart := false, narrowed := true }
def MovesBadUptoSaid : Prop := movesBadUptoRow.holds Try.pinned (OpenSpec.upto movesBadSpec)

end Rows
end Go.Proofs.Ytilipeigjkmldaa
